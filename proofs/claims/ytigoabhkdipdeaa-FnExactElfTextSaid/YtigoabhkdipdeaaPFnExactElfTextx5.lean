/- Laid by a program of this session (patch_print.py) out of the translation: plain functions and what the calls do. No condition. -/
import Derived.Test.YtigoabhkdipdeaaPFnExactElfTextx0
import Derived.Test.YtigoabhkdipdeaaPFnExactElfTextx2
import Derived.Test.YtigoabhkdipdeaaPFnExactElfTextx3
import Derived.Test.YtigoabhkdipdeaaPFnExactElfTextx4
namespace Go.Proofs.Ytigoabhkdipdeaa.PFnExactElfText
open Go.RowKit Go.Proofs.YtigoabhkdipdeaaW.PrintWords Go.Proofs.YtigoabhkdipdeaaW.PrintLast Go.Proofs.YtigoabhkdipdeaaW.PrintMore
attribute [local go_sem] max2_int min2_int max_two min_two max_three min_three max_four min_four   -- for this text's walks alone
set_option linter.unusedVariables false
set_option linter.unusedSimpArgs false

/-! ### spec_l10Check: function 117 -/
def spec_l10Check.f (k : Nat) (a0_0 : Int) (l0_1 : List (S111)) : Option (Int × Int) := if (l0_1.length : Int) = 0 then (some (0, 5)) else (if (l0_1.length : Int) > 4 then (some (0, 6)) else ((spec_l10Segments.f k a0_0 l0_1).bind fun bt140 => (if bt140.2 = 0 then ((spec_l10Run.f k a0_0 l0_1).bind fun t142 => (if 0 ≤ t142 then (if t142 < (l0_1.length : Int) then ((spec_l01In.f a0_0 ((rd_T111 l0_1 t142).f1) (wrap64 ((wrap64 (((rd_T111 l0_1 t142).f1) + ((rd_T111 l0_1 t142).f2))) - 1))).bind fun t145 => (if t145 = true then (if (Int.tmod a0_0 32) = 0 then (some (0, 0)) else (some (0, 32))) else (some (0, 32)))) else (none)) else (none))) else (some (bt140.1, bt140.2)))))
theorem spec_l10Check.mono : ∀ a0 a1 k, LeO (spec_l10Check.f k a0 a1) (spec_l10Check.f (k + 1) a0 a1) := by
  intro a0 a1 k
  unfold spec_l10Check.f
  repeat' first
      | (with_reducible exact spec_l10Run.mono _ _ _)
      | (with_reducible exact spec_l10Segments.mono _ _ _)
      | (with_reducible exact LeO.refl _)
      | (with_reducible exact LeO.none _)
      | (with_reducible refine LeO.ite ?_ ?_)
      | (with_reducible refine LeO.bind ?_ (fun _ => ?_))
      | exact spec_l10Run.mono _ _ _
      | exact spec_l10Segments.mono _ _ _
      | exact LeO.none _
      | refine LeO.ite ?_ ?_
      | refine LeO.bind ?_ (fun _ => ?_)
def spec_l10Check.T8 : Bool × List (List Nat × List Nat) := (true, [([], []), ([0], [0]), ([], []), ([2], [2]), ([1, 3], [1, 3]), ([4], [4]), ([], []), ([6, 5, 3, 0, 1, 2, 3, 4, 5, 6], [5, 6])])
def spec_l10Check.B8 : List Nat := [0, 1, 0, 4, 15, 31, 0, 127]
theorem spec_l10Check.tab8 : rtab .any (opsOf Try.f117 8) = spec_l10Check.T8 := by kernel_rfl
theorem spec_l10Check.bits8 : waitsOk spec_l10Check.T8.2 spec_l10Check.B8 = true := by kernel_rfl
set_option maxHeartbeats 8000000 in
set_option maxRecDepth 100000 in
theorem spec_l10Check.calls (k : Nat) (a0_0 : Int) (A0_1 : Option Addr) (c0_1 : Nat) (l0_1 : List (S111)) (r1 : Int) (r2 : Int) (w : World) (hr0_1 : Kd.C k111 w A0_1 l0_1.length l0_1) (hc0_1 : l0_1.length ≤ c0_1) (h : spec_l10Check.f k a0_0 l0_1 = some (r1, r2)) :
    Calls Try.prog 117 #[.agg #[.int .i64 a0_0, .slice A0_1 l0_1.length c0_1]] w fun e w' => e = .returned (.tuple #[.int .i64 r1, .int .i64 r2]) ∧ Below w.heap.size w w' := by
  have hu29 := Try.underlying29
  have hu111 := Try.underlying111
  have HR0_1 := Aside0.mk hr0_1
  have HC0_1 := Aside0.mk hc0_1
  clear hr0_1 hc0_1
  have HB := Aside0.mk (Below.refl w.heap.size w)
  have H : (if (l0_1.length : Int) = 0 then (some (0, 5)) else (if (l0_1.length : Int) > 4 then (some (0, 6)) else ((spec_l10Segments.f k a0_0 l0_1).bind fun bt140 => (if bt140.2 = 0 then ((spec_l10Run.f k a0_0 l0_1).bind fun t142 => (if 0 ≤ t142 then (if t142 < (l0_1.length : Int) then ((spec_l01In.f a0_0 ((rd_T111 l0_1 t142).f1) (wrap64 ((wrap64 (((rd_T111 l0_1 t142).f1) + ((rd_T111 l0_1 t142).f2))) - 1))).bind fun t145 => (if t145 = true then (if (Int.tmod a0_0 32) = 0 then (some (0, 0)) else (some (0, 32))) else (some (0, 32)))) else (none)) else (none))) else (some (bt140.1, bt140.2)))))) = some (r1, r2) := h
  clear h
  by_cases c2 : (l0_1.length : Int) = 0
  · rw [if_pos c2] at H
    have c2b0 : ((l0_1.length : Int) == 0) = true := beq_iff_eq.mpr c2
    have c2b1 : ((l0_1.length : Int) != 0) = false := bne_eq_false_iff_eq.mpr c2
    clear c2
    simp only [Option.some.injEq, Prod.mk.injEq] at H
    obtain ⟨rfl, rfl⟩ := H
    go_enter Try.func117, Try.ntmps117
    go_wp2_with (first | ((with_reducible refine gate_dst (N := 1) rfl ?_); refine box_event ?hg (N := 1) ?hd (cs := #[.int .i64 a0_0, .slice A0_1 l0_1.length c0_1]) (t := 29) ?hr ?_; (case hd => rfl); (case hg => rfl); (case hr => first | (go_simp; done) | (go_simp; rfl)); intro gb139 hg w3 hbox hb; have n0_ := Aside0.mk (below_step by1 hb); have n1_ := Aside0.mk (hbox); have n2_ := Aside0.mk ((by0 : w.heap.size ≤ gb139)); have n3_ := Aside0.mk ((by0 : w.heap.size ≤ gb139)); clear HB; have HB := n0_; have BK139 := n1_; have GW139 := n2_; have GE139 := n3_; clear n0_ n1_ n2_ n3_; clear hb hbox hg; have hcz4_0 : w3.cell? ⟨gb139, 0, none⟩ = some (.int .i64 a0_0) := (blk_cell BK139.out 0).trans rfl; have hcz4_1 : w3.cell? ⟨gb139, 1, none⟩ = some (.slice A0_1 l0_1.length c0_1) := (blk_cell BK139.out 1).trans rfl; have hfz4_0 := blk_frozen BK139.out 0; have hfz4_1 := blk_frozen BK139.out 1))
    go_ret2
    exact ⟨by first | rfl | (simp [errW_none, errW_some] <;> rfl) | (simp [*, errW_none, errW_some] <;> rfl), by repeat (first | (with_reducible first | exact HB.out | apply below_alloc | apply pw_below_drewN | apply below_drew1 | refine below_set ?_ GE139.out) | exact HB.out)⟩
  · rw [if_neg c2] at H
    have c2b0 : ((l0_1.length : Int) == 0) = false := beq_eq_false_iff_ne.mpr c2
    have c2b1 : ((l0_1.length : Int) != 0) = true := bne_iff_ne.mpr c2
    have c2b2 : ¬ (l0_1 = []) := fun h_ => c2 (by rw [h_]; rfl)
    by_cases c5 : (l0_1.length : Int) > 4
    · rw [if_pos c5] at H
      have c5b0 : decide (4 < (l0_1.length : Int)) = true := decide_eq_true c5
      have c5b1 : decide (4 < l0_1.length) = true := decide_eq_true (by omega)
      clear c5
      simp only [Option.some.injEq, Prod.mk.injEq] at H
      obtain ⟨rfl, rfl⟩ := H
      go_enter Try.func117, Try.ntmps117
      go_wp2_with (first | ((with_reducible refine gate_dst (N := 1) rfl ?_); refine box_event ?hg (N := 1) ?hd (cs := #[.int .i64 a0_0, .slice A0_1 l0_1.length c0_1]) (t := 29) ?hr ?_; (case hd => rfl); (case hg => rfl); (case hr => first | (go_simp; done) | (go_simp; rfl)); intro gb139 hg w6 hbox hb; have n0_ := Aside0.mk (below_step by1 hb); have n1_ := Aside0.mk (hbox); have n2_ := Aside0.mk ((by0 : w.heap.size ≤ gb139)); have n3_ := Aside0.mk ((by0 : w.heap.size ≤ gb139)); clear HB; have HB := n0_; have BK139 := n1_; have GW139 := n2_; have GE139 := n3_; clear n0_ n1_ n2_ n3_; clear hb hbox hg; have hcz7_0 : w6.cell? ⟨gb139, 0, none⟩ = some (.int .i64 a0_0) := (blk_cell BK139.out 0).trans rfl; have hcz7_1 : w6.cell? ⟨gb139, 1, none⟩ = some (.slice A0_1 l0_1.length c0_1) := (blk_cell BK139.out 1).trans rfl; have hfz7_0 := blk_frozen BK139.out 0; have hfz7_1 := blk_frozen BK139.out 1))
      go_ret2
      exact ⟨by first | rfl | (simp [errW_none, errW_some] <;> rfl) | (simp [*, errW_none, errW_some] <;> rfl), by repeat (first | (with_reducible first | exact HB.out | apply below_alloc | apply pw_below_drewN | apply below_drew1 | refine below_set ?_ GE139.out) | exact HB.out)⟩
    · rw [if_neg c5] at H
      have c5b0 : decide (4 < (l0_1.length : Int)) = false := decide_eq_false c5
      have c5b1 : decide (4 < l0_1.length) = false := decide_eq_false (by omega)
      clear c5
      replace H := Option.bind_eq_some_iff.mp H
      obtain ⟨⟨t140, t141⟩, A80, H⟩ := H
      replace H : (if t141 = 0 then ((spec_l10Run.f k a0_0 l0_1).bind fun t142 => (if 0 ≤ t142 then (if t142 < (l0_1.length : Int) then ((spec_l01In.f a0_0 ((rd_T111 l0_1 t142).f1) (wrap64 ((wrap64 (((rd_T111 l0_1 t142).f1) + ((rd_T111 l0_1 t142).f2))) - 1))).bind fun t145 => (if t145 = true then (if (Int.tmod a0_0 32) = 0 then (some (0, 0)) else (some (0, 32))) else (some (0, 32)))) else (none)) else (none))) else (some (t140, t141))) = some (r1, r2) := H
      have A8 := Aside0.mk A80
      clear A80
      by_cases c9 : t141 = 0
      · rw [if_pos c9] at H
        have c9b0 : (t141 == 0) = true := beq_iff_eq.mpr c9
        have c9b1 : (t141 != 0) = false := bne_eq_false_iff_eq.mpr c9
        clear c9
        replace H := Option.bind_eq_some_iff.mp H
        obtain ⟨t142, A100, H⟩ := H
        replace H : (if 0 ≤ t142 then (if t142 < (l0_1.length : Int) then ((spec_l01In.f a0_0 ((rd_T111 l0_1 t142).f1) (wrap64 ((wrap64 (((rd_T111 l0_1 t142).f1) + ((rd_T111 l0_1 t142).f2))) - 1))).bind fun t145 => (if t145 = true then (if (Int.tmod a0_0 32) = 0 then (some (0, 0)) else (some (0, 32))) else (some (0, 32)))) else (none)) else (none)) = some (r1, r2) := H
        have A10 := Aside0.mk A100
        clear A100
        by_cases c11 : 0 ≤ t142
        · rw [if_pos c11] at H
          have c11b0 : decide (0 ≤ t142) = true := decide_eq_true c11
          clear c11
          by_cases c12 : t142 < (l0_1.length : Int)
          · rw [if_pos c12] at H
            have c12b0 : decide (t142 < (l0_1.length : Int)) = true := decide_eq_true c12
            clear c12
            replace H := Option.bind_eq_some_iff.mp H
            obtain ⟨t145, A130, H⟩ := H
            replace H : (if t145 = true then (if (Int.tmod a0_0 32) = 0 then (some (0, 0)) else (some (0, 32))) else (some (0, 32))) = some (r1, r2) := H
            have A13 := Aside0.mk A130
            clear A130
            by_cases c14 : t145 = true
            · subst c14
              have H1 : (if (Int.tmod a0_0 32) = 0 then (some (0, 0)) else (some (0, 32))) = some (r1, r2) := by rw [if_pos rfl] at H; exact H
              clear H
              have H := H1
              clear H1
              by_cases c15 : (Int.tmod a0_0 32) = 0
              · rw [if_pos c15] at H
                have c15b0 : ((Int.tmod a0_0 32) == 0) = true := beq_iff_eq.mpr c15
                have c15b1 : ((Int.tmod a0_0 32) != 0) = false := bne_eq_false_iff_eq.mpr c15
                clear c15
                simp only [Option.some.injEq, Prod.mk.injEq] at H
                obtain ⟨rfl, rfl⟩ := H
                go_enter Try.func117, Try.ntmps117
                try go_wp2_with (first | ((with_reducible refine gate_dst (N := 1) rfl ?_); refine box_event ?hg (N := 1) ?hd (cs := #[.int .i64 a0_0, .slice A0_1 l0_1.length c0_1]) (t := 29) ?hr ?_; (case hd => rfl); (case hg => rfl); (case hr => first | (go_simp; done) | (go_simp; rfl)); intro gb139 hg w16 hbox hb; have n0_ := Aside0.mk (below_step by1 hb); have n1_ := Aside0.mk (hbox); have n2_ := Aside0.mk ((by0 : w.heap.size ≤ gb139)); have n3_ := Aside0.mk ((by0 : w.heap.size ≤ gb139)); clear HB; have HB := n0_; have BK139 := n1_; have GW139 := n2_; have GE139 := n3_; clear n0_ n1_ n2_ n3_; clear hb hbox hg; have hcz17_0 : w16.cell? ⟨gb139, 0, none⟩ = some (.int .i64 a0_0) := (blk_cell BK139.out 0).trans rfl; have hcz17_1 : w16.cell? ⟨gb139, 1, none⟩ = some (.slice A0_1 l0_1.length c0_1) := (blk_cell BK139.out 1).trans rfl; have hfz17_0 := blk_frozen BK139.out 0; have hfz17_1 := blk_frozen BK139.out 1) | ((with_reducible refine gate_callee (f := 185) rfl ?_); refine goesL_ (some 17) rfl rfl Try.func185 by7 rfl #[.agg #[.int .i64 a0_0, .slice A0_1 l0_1.length c0_1]] rfl by2 ?_; (with_reducible refine (spec_l10Segments.calls k a0_0 _ _ l0_1 t140 t141 _ ?side1 ?side2 A8.out).mono ?_); (case side1 => repeat (first | exact (Kd.C_below HR0_1.out HB.out) | (with_reducible refine Kd.C_alloc ?_ _) | (with_reducible refine Kd.C_drewN ?_ _) | (with_reducible refine Kd.C_drew ?_))); (case side2 => exact HC0_1.out); rintro e w18 ⟨rfl, hb⟩; refine ⟨_, rfl, ?_⟩; have n0_ := Aside0.mk (blk_below (g := gb139) (o := .cells #[.int .i64 a0_0, .slice A0_1 l0_1.length c0_1] 29 (0, 0)) by10 hb); have n1_ := Aside0.mk (below_step by14 hb); clear BK139; clear HB; have BK139 := n0_; have HB := n1_; clear n0_ n1_; (try clear hb); (try clear hb2); (try clear hk); (try clear hi)))
                have n0_ := Aside0.mk (blk_drew BK139.out)
                have n1_ := Aside0.mk (below_drew1 HB.out)
                clear BK139
                clear HB
                have BK139 := n0_
                have HB := n1_
                clear n0_ n1_
                have p143 : 0 ≤ (t142 : Int) := of_decide_eq_true by8
                have q143 : t142 < (l0_1.length : Int) := of_decide_eq_true by8
                obtain ⟨ad143, e143, hx143_0, hx143_1, hx143_2, hx143_3⟩ := at_T111 HR0_1.out t142 p143 q143
                have hw143_3 := hx143_3
                have hw143_2 := hx143_2
                have hw143_1 := hx143_1
                have hw143_0 := hx143_0
                cases e143
                replace hx143_0 := (HB.out.cell (World.block_lt_of_cell? w _ hx143_0)).trans hx143_0
                replace hx143_1 := (HB.out.cell (World.block_lt_of_cell? w _ hx143_1)).trans hx143_1
                replace hx143_2 := (HB.out.cell (World.block_lt_of_cell? w _ hx143_2)).trans hx143_2
                replace hx143_3 := (HB.out.cell (World.block_lt_of_cell? w _ hx143_3)).trans hx143_3
                replace p143 := eq_true p143
                replace q143 := eq_true q143
                refine start_ (n := 8) (S := fun w' => w'.cell? ⟨gb139, 0, none⟩ = some (.int .i64 a0_0) ∧ w'.cell? ⟨gb139, 1, none⟩ = some (.slice (some ad143) l0_1.length c0_1) ∧ w'.cell? (ad143.add ((t142).toNat * 4)) = some (.int .i64 ((rd_T111 l0_1 t142).f0)) ∧ w'.cell? ⟨(ad143.add ((t142).toNat * 4)).block, (ad143.add ((t142).toNat * 4)).off + 1, none⟩ = some (.int .i64 ((rd_T111 l0_1 t142).f1)) ∧ w'.cell? ⟨(ad143.add ((t142).toNat * 4)).block, (ad143.add ((t142).toNat * 4)).off + 2, none⟩ = some (.int .i64 ((rd_T111 l0_1 t142).f2)) ∧ w'.cell? ⟨(ad143.add ((t142).toNat * 4)).block, (ad143.add ((t142).toNat * 4)).off + 3, none⟩ = some (.string ((rd_T111 l0_1 t142).f3))) (ds := []) #[false, false, false, false, false, false, false, false] by7 rfl rfl ⟨(blk_cell BK139.out 0).trans rfl, (blk_cell BK139.out 1).trans rfl, ((HB.out.cell (World.block_lt_of_cell? w _ hw143_0)).trans hw143_0), ((HB.out.cell (World.block_lt_of_cell? w _ hw143_1)).trans hw143_1), ((HB.out.cell (World.block_lt_of_cell? w _ hw143_2)).trans hw143_2), ((HB.out.cell (World.block_lt_of_cell? w _ hw143_3)).trans hw143_3)⟩ (fun hHeld => ?_); refine with_tabW spec_l10Check.tab8 spec_l10Check.bits8 (fun HT_ HW_ => ?_)
                generalize w18.drew = w19 at BK139 HB hx143_0 hx143_1 hx143_2 hx143_3 hHeld ⊢
                refine pure_ (i := 0) (N := some 24) (v := ?_) (a' := ?_) #[true, false, false, false, false, false, false, false] rfl rfl (any_of HT_.out by7) (fun _ _ _ h => h) (Or.inl ⟨by rfl, ?_⟩) ?_ ?_
                rotate_left
                · intro w'
                  go_simp
                  with_reducible rfl
                rotate_left
                · simp only [Act.put, List.setIfInBounds_toArray, List.set_cons_zero, List.set_cons_succ, i64_w, i32_w]
                  rfl
                refine take_ (i := 1) (N := some 25) (v := ?_) (a' := ?_) #[true, true, false, false, false, false, false, false] rfl rfl (take_ofW HT_.out HW_.out by7) (fun _ _ _ h => h) (Or.inl ⟨by rfl, ?_⟩) hHeld ?_ ?_
                rotate_left
                · rintro w' ⟨s0, s1, s2, s3, s4, s5⟩
                  go_simp
                  with_reducible rfl
                rotate_left
                · simp only [Act.put, List.setIfInBounds_toArray, List.set_cons_zero, List.set_cons_succ, i64_w, i32_w]
                  rfl
                refine take_ (i := 2) (N := some 26) (v := ?_) (a' := ?_) #[true, true, true, false, false, false, false, false] rfl rfl (take_ofW HT_.out HW_.out by7) (fun _ _ _ h => h) (Or.inl ⟨by rfl, ?_⟩) hHeld ?_ ?_
                rotate_left
                · rintro w' ⟨s0, s1, s2, s3, s4, s5⟩
                  go_simp
                  with_reducible rfl
                rotate_left
                · simp only [Act.put, List.setIfInBounds_toArray, List.set_cons_zero, List.set_cons_succ, i64_w, i32_w]
                  rfl
                refine join_ (σ := Nat) 1 #[true, true, true, true, true, true, true, false] (fun s_ => [(27, .int .i64 t142), (6, .pointer (some ⟨s_, 0, none⟩)), (28, .pointer (some (ad143.add ((t142).toNat * 4)))), (29, .agg #[.int .i64 ((rd_T111 l0_1 t142).f0), .int .i64 ((rd_T111 l0_1 t142).f1), .int .i64 ((rd_T111 l0_1 t142).f2), .string ((rd_T111 l0_1 t142).f3)])]) (fun s_ w' => (w'.cell? ⟨gb139, 0, none⟩ = some (.int .i64 a0_0) ∧ w'.cell? ⟨gb139, 1, none⟩ = some (.slice (some ad143) l0_1.length c0_1) ∧ w'.cell? (ad143.add ((t142).toNat * 4)) = some (.int .i64 ((rd_T111 l0_1 t142).f0)) ∧ w'.cell? ⟨(ad143.add ((t142).toNat * 4)).block, (ad143.add ((t142).toNat * 4)).off + 1, none⟩ = some (.int .i64 ((rd_T111 l0_1 t142).f1)) ∧ w'.cell? ⟨(ad143.add ((t142).toNat * 4)).block, (ad143.add ((t142).toNat * 4)).off + 2, none⟩ = some (.int .i64 ((rd_T111 l0_1 t142).f2)) ∧ w'.cell? ⟨(ad143.add ((t142).toNat * 4)).block, (ad143.add ((t142).toNat * 4)).off + 3, none⟩ = some (.string ((rd_T111 l0_1 t142).f3))) ∧ (w'.heap[gb139]? = some (.cells #[.int .i64 a0_0, .slice (some ad143) l0_1.length c0_1] 29 (0, 0))) ∧ (w'.heap[s_]? = some (.cells #[.int .i64 0, .int .i64 0, .int .i64 0, .string (⟨#[]⟩ : ByteArray)] 111 (0, 0))) ∧ (w.heap.size ≤ s_) ∧ (w.heap.size ≤ s_) ∧ (gb139 ≠ s_) ∧ (s_ ≠ gb139) ∧ (Below w.heap.size w w')) ?_ ?_
                rotate_left
                · intro hCont
                  refine two_ (i := 3) (j := 6) (Ni := some 27) (Nj := some 6) #[true, true, true, true, false, false, false, false] #[true, true, true, false, false, false, true, false] rfl rfl rfl rfl (two_of HT_.out by7) (by decide) (by decide) (fun K hK => ?_) (fun K hK => ?_)
                  · skip
                    refine goes_ Try.func186 by7 rfl #[.agg #[.int .i64 a0_0, .slice (some ad143) l0_1.length c0_1]] (by rfl) rfl rfl by2 ?_
                    with_reducible refine (spec_l10Run.calls k a0_0 _ _ l0_1 t142 _ ?side1 ?side2 A10.out).mono ?_
                    (case side1 => repeat (first | exact (Kd.C_below HR0_1.out HB.out) | (with_reducible refine Kd.C_alloc ?_ _) | (with_reducible refine Kd.C_drewN ?_ _) | (with_reducible refine Kd.C_drew ?_)))
                    (case side2 => exact HC0_1.out)
                    rintro e w20 ⟨rfl, hb⟩
                    refine ⟨_, rfl, ?_⟩
                    have n0_ := Aside0.mk (blk_below (g := gb139) (o := .cells #[.int .i64 a0_0, .slice (some ad143) l0_1.length c0_1] 29 (0, 0)) by10 hb)
                    have n1_ := Aside0.mk (below_step by14 hb)
                    clear BK139
                    clear HB
                    have BK139 := n0_
                    have HB := n1_
                    clear n0_ n1_
                    (try clear hb)
                    (try clear hb2)
                    (try clear hk)
                    (try clear hi)
                    refine hK.out _ _ ⟨(blk_cell BK139.out 0).trans rfl, (blk_cell BK139.out 1).trans rfl, ((HB.out.cell (World.block_lt_of_cell? w _ hw143_0)).trans hw143_0), ((HB.out.cell (World.block_lt_of_cell? w _ hw143_1)).trans hw143_1), ((HB.out.cell (World.block_lt_of_cell? w _ hw143_2)).trans hw143_2), ((HB.out.cell (World.block_lt_of_cell? w _ hw143_3)).trans hw143_3)⟩ (fun hHeld => ?_)
                    clear hK K
                    refine norm_ (a' := ?_) ?_ ?_
                    rotate_left
                    · show Act.put _ (some 27) _ = _
                      simp only [Act.put, List.setIfInBounds_toArray, List.set_cons_zero, List.set_cons_succ, i64_w, i32_w]
                      rfl
                    refine pure_ (i := 4) (N := some 28) (v := ?_) (a' := ?_) #[true, true, true, true, true, false, false, false] rfl rfl (any_of HT_.out by7) (fun _ _ _ h => h) (Or.inl ⟨by rfl, ?_⟩) ?_ ?_
                    rotate_left
                    · intro w'
                      go_simp
                      with_reducible rfl
                    rotate_left
                    · simp only [Act.put, List.setIfInBounds_toArray, List.set_cons_zero, List.set_cons_succ, i64_w, i32_w]
                      rfl
                    refine take_ (i := 5) (N := some 29) (v := ?_) (a' := ?_) #[true, true, true, true, true, true, false, false] rfl rfl (take_ofW HT_.out HW_.out by7) (fun _ _ _ h => h) (Or.inl ⟨by rfl, ?_⟩) hHeld ?_ ?_
                    rotate_left
                    · rintro w' ⟨s0, s1, s2, s3, s4, s5⟩
                      go_simp
                      with_reducible rfl
                    rotate_left
                    · simp only [Act.put, List.setIfInBounds_toArray, List.set_cons_zero, List.set_cons_succ, i64_w, i32_w]
                      rfl
                    refine one_ (i := 6) (N := some 6) #[true, true, true, true, true, true, true, false] rfl rfl (one_of HT_.out by7) (by decide) (fun K hK => ?_)
                    refine box_step ?hg (N := 6) ?hd (cs := #[.int .i64 0, .int .i64 0, .int .i64 0, .string (⟨#[]⟩ : ByteArray)]) (t := 111) ?hr ?_; (case hd => rfl); (case hg => rfl); (case hr => first | (go_simp; done) | (go_simp; rfl))
                    intro gb144 hg w21 hbox hb
                    have n0_ := Aside0.mk (blk_below (g := gb139) (o := .cells #[.int .i64 a0_0, .slice (some ad143) l0_1.length c0_1] 29 (0, 0)) by10 hb)
                    have n1_ := Aside0.mk (below_step by14 hb)
                    have n2_ := Aside0.mk (hbox)
                    have n3_ := Aside0.mk ((by13 : w.heap.size ≤ gb144))
                    have n4_ := Aside0.mk ((by13 : w.heap.size ≤ gb144))
                    have n5_ := Aside0.mk ((by21 : gb139 ≠ gb144))
                    have n6_ := Aside0.mk ((by22 : gb144 ≠ gb139))
                    clear BK139
                    clear HB
                    have BK139 := n0_
                    have HB := n1_
                    have BK144 := n2_
                    have GW144 := n3_
                    have GE144 := n4_
                    have NB139_144 := n5_
                    have NB144_139 := n6_
                    clear n0_ n1_ n2_ n3_ n4_ n5_ n6_
                    clear hb hbox hg
                    refine hK.out _ _ ⟨(blk_cell BK139.out 0).trans rfl, (blk_cell BK139.out 1).trans rfl, ((HB.out.cell (World.block_lt_of_cell? w _ hw143_0)).trans hw143_0), ((HB.out.cell (World.block_lt_of_cell? w _ hw143_1)).trans hw143_1), ((HB.out.cell (World.block_lt_of_cell? w _ hw143_2)).trans hw143_2), ((HB.out.cell (World.block_lt_of_cell? w _ hw143_3)).trans hw143_3)⟩ (fun hHeld => ?_)
                    clear hK K
                    refine norm_ (a' := ?_) ?_ ?_
                    rotate_left
                    · show Act.put _ (some 6) _ = _
                      simp only [Act.put, List.setIfInBounds_toArray, List.set_cons_zero, List.set_cons_succ, i64_w, i32_w]
                      rfl
                    exact norm_ by49 (hCont (gb144) _ ⟨hHeld, by10, by33, GW144.out, GE144.out, NB139_144.out, NB144_139.out, by18⟩)
                  · skip
                    refine box_step ?hg (N := 6) ?hd (cs := #[.int .i64 0, .int .i64 0, .int .i64 0, .string (⟨#[]⟩ : ByteArray)]) (t := 111) ?hr ?_; (case hd => rfl); (case hg => rfl); (case hr => first | (go_simp; done) | (go_simp; rfl))
                    intro gb144 hg w20 hbox hb
                    have n0_ := Aside0.mk (blk_below (g := gb139) (o := .cells #[.int .i64 a0_0, .slice (some ad143) l0_1.length c0_1] 29 (0, 0)) by10 hb)
                    have n1_ := Aside0.mk (below_step by14 hb)
                    have n2_ := Aside0.mk (hbox)
                    have n3_ := Aside0.mk ((by13 : w.heap.size ≤ gb144))
                    have n4_ := Aside0.mk ((by13 : w.heap.size ≤ gb144))
                    have n5_ := Aside0.mk ((by21 : gb139 ≠ gb144))
                    have n6_ := Aside0.mk ((by22 : gb144 ≠ gb139))
                    clear BK139
                    clear HB
                    have BK139 := n0_
                    have HB := n1_
                    have BK144 := n2_
                    have GW144 := n3_
                    have GE144 := n4_
                    have NB139_144 := n5_
                    have NB144_139 := n6_
                    clear n0_ n1_ n2_ n3_ n4_ n5_ n6_
                    clear hb hbox hg
                    refine hK.out _ _ ⟨(blk_cell BK139.out 0).trans rfl, (blk_cell BK139.out 1).trans rfl, ((HB.out.cell (World.block_lt_of_cell? w _ hw143_0)).trans hw143_0), ((HB.out.cell (World.block_lt_of_cell? w _ hw143_1)).trans hw143_1), ((HB.out.cell (World.block_lt_of_cell? w _ hw143_2)).trans hw143_2), ((HB.out.cell (World.block_lt_of_cell? w _ hw143_3)).trans hw143_3)⟩ (fun hHeld => ?_)
                    clear hK K
                    refine norm_ (a' := ?_) ?_ ?_
                    rotate_left
                    · show Act.put _ (some 6) _ = _
                      simp only [Act.put, List.setIfInBounds_toArray, List.set_cons_zero, List.set_cons_succ, i64_w, i32_w]
                      rfl
                    refine one_ (i := 3) (N := some 27) #[true, true, true, true, false, false, true, false] rfl rfl (one_of HT_.out by7) (by decide) (fun K hK => ?_)
                    refine goes_ Try.func186 by7 rfl #[.agg #[.int .i64 a0_0, .slice (some ad143) l0_1.length c0_1]] (by rfl) rfl rfl by2 ?_
                    with_reducible refine (spec_l10Run.calls k a0_0 _ _ l0_1 t142 _ ?side1 ?side2 A10.out).mono ?_
                    (case side1 => repeat (first | exact (Kd.C_below HR0_1.out HB.out) | (with_reducible refine Kd.C_alloc ?_ _) | (with_reducible refine Kd.C_drewN ?_ _) | (with_reducible refine Kd.C_drew ?_)))
                    (case side2 => exact HC0_1.out)
                    rintro e w21 ⟨rfl, hb⟩
                    refine ⟨_, rfl, ?_⟩
                    have n0_ := Aside0.mk (blk_below (g := gb139) (o := .cells #[.int .i64 a0_0, .slice (some ad143) l0_1.length c0_1] 29 (0, 0)) by10 hb)
                    have n1_ := Aside0.mk (blk_below (g := gb144) (o := .cells #[.int .i64 0, .int .i64 0, .int .i64 0, .string (⟨#[]⟩ : ByteArray)] 111 (0, 0)) by33 hb)
                    have n2_ := Aside0.mk (below_step by18 hb)
                    clear BK139
                    clear BK144
                    clear HB
                    have BK139 := n0_
                    have BK144 := n1_
                    have HB := n2_
                    clear n0_ n1_ n2_
                    (try clear hb)
                    (try clear hb2)
                    (try clear hk)
                    (try clear hi)
                    refine hK.out _ _ ⟨(blk_cell BK139.out 0).trans rfl, (blk_cell BK139.out 1).trans rfl, ((HB.out.cell (World.block_lt_of_cell? w _ hw143_0)).trans hw143_0), ((HB.out.cell (World.block_lt_of_cell? w _ hw143_1)).trans hw143_1), ((HB.out.cell (World.block_lt_of_cell? w _ hw143_2)).trans hw143_2), ((HB.out.cell (World.block_lt_of_cell? w _ hw143_3)).trans hw143_3)⟩ (fun hHeld => ?_)
                    clear hK K
                    refine norm_ (a' := ?_) ?_ ?_
                    rotate_left
                    · show Act.put _ (some 27) _ = _
                      simp only [Act.put, List.setIfInBounds_toArray, List.set_cons_zero, List.set_cons_succ, i64_w, i32_w]
                      rfl
                    refine pure_ (i := 4) (N := some 28) (v := ?_) (a' := ?_) #[true, true, true, true, true, false, true, false] rfl rfl (any_of HT_.out by7) (fun _ _ _ h => h) (Or.inl ⟨by rfl, ?_⟩) ?_ ?_
                    rotate_left
                    · intro w'
                      go_simp
                      with_reducible rfl
                    rotate_left
                    · simp only [Act.put, List.setIfInBounds_toArray, List.set_cons_zero, List.set_cons_succ, i64_w, i32_w]
                      rfl
                    refine take_ (i := 5) (N := some 29) (v := ?_) (a' := ?_) #[true, true, true, true, true, true, true, false] rfl rfl (take_ofW HT_.out HW_.out by7) (fun _ _ _ h => h) (Or.inl ⟨by rfl, ?_⟩) hHeld ?_ ?_
                    rotate_left
                    · rintro w' ⟨s0, s1, s2, s3, s4, s5⟩
                      go_simp
                      with_reducible rfl
                    rotate_left
                    · simp only [Act.put, List.setIfInBounds_toArray, List.set_cons_zero, List.set_cons_succ, i64_w, i32_w]
                      rfl
                    exact norm_ by49 (hCont (gb144) _ ⟨hHeld, by10, by33, GW144.out, GE144.out, NB139_144.out, NB144_139.out, by18⟩)
                rintro gb144 w22 ⟨hS_, h0_, h1_, h2_, h3_, h4_, h5_, h6_⟩
                have n0_ : Aside0 (w22.heap[gb139]? = some (.cells #[.int .i64 a0_0, .slice (some ad143) l0_1.length c0_1] 29 (0, 0))) := ⟨h0_⟩
                have n1_ : Aside0 (w22.heap[gb144]? = some (.cells #[.int .i64 0, .int .i64 0, .int .i64 0, .string (⟨#[]⟩ : ByteArray)] 111 (0, 0))) := ⟨h1_⟩
                have n2_ : Aside0 (w.heap.size ≤ gb144) := ⟨h2_⟩
                have n3_ : Aside0 (w.heap.size ≤ gb144) := ⟨h3_⟩
                have n4_ : Aside0 (gb139 ≠ gb144) := ⟨h4_⟩
                have n5_ : Aside0 (gb144 ≠ gb139) := ⟨h5_⟩
                have n6_ : Aside0 (Below w.heap.size w w22) := ⟨h6_⟩
                clear BK139
                clear HB
                clear h0_ h1_ h2_ h3_ h4_ h5_ h6_
                have BK139 := n0_
                have BK144 := n1_
                have GW144 := n2_
                have GE144 := n3_
                have NB139_144 := n4_
                have NB144_139 := n5_
                have HB := n6_
                clear n0_ n1_ n2_ n3_ n4_ n5_ n6_
                have hHeld : w22.cell? ⟨gb139, 0, none⟩ = some (.int .i64 a0_0) ∧ w22.cell? ⟨gb139, 1, none⟩ = some (.slice (some ad143) l0_1.length c0_1) ∧ w22.cell? (ad143.add ((t142).toNat * 4)) = some (.int .i64 ((rd_T111 l0_1 t142).f0)) ∧ w22.cell? ⟨(ad143.add ((t142).toNat * 4)).block, (ad143.add ((t142).toNat * 4)).off + 1, none⟩ = some (.int .i64 ((rd_T111 l0_1 t142).f1)) ∧ w22.cell? ⟨(ad143.add ((t142).toNat * 4)).block, (ad143.add ((t142).toNat * 4)).off + 2, none⟩ = some (.int .i64 ((rd_T111 l0_1 t142).f2)) ∧ w22.cell? ⟨(ad143.add ((t142).toNat * 4)).block, (ad143.add ((t142).toNat * 4)).off + 3, none⟩ = some (.string ((rd_T111 l0_1 t142).f3)) := hS_
                refine norm_ (a' := ?_) ?_ ?_
                rotate_left
                · simp only [putAll, Act.put, List.setIfInBounds_toArray, List.set_cons_zero, List.set_cons_succ]
                  rfl
                refine one_ (i := 7) (N := none) #[true, true, true, true, true, true, true, true] rfl rfl (one_of HT_.out by7) (by decide) (fun K hK => ?_)
                have hs23 : w22.cell? ⟨gb144, 0, none⟩ = some (.int .i64 0) := (blk_cell BK144.out 0).trans rfl
                have hfs23 := blk_frozen BK144.out 0
                have hns23_0 := NB139_144.out
                have hms23_0 := NB144_139.out
                have hs24 : w22.cell? ⟨gb144, 1, none⟩ = some (.int .i64 0) := (blk_cell BK144.out 1).trans rfl
                have hfs24 := blk_frozen BK144.out 1
                have hns24_0 := NB139_144.out
                have hms24_0 := NB144_139.out
                have hs25 : w22.cell? ⟨gb144, 2, none⟩ = some (.int .i64 0) := (blk_cell BK144.out 2).trans rfl
                have hfs25 := blk_frozen BK144.out 2
                have hns25_0 := NB139_144.out
                have hms25_0 := NB144_139.out
                have hs26 : w22.cell? ⟨gb144, 3, none⟩ = some (.string (⟨#[]⟩ : ByteArray)) := (blk_cell BK144.out 3).trans rfl
                have hfs26 := blk_frozen BK144.out 3
                have hns26_0 := NB139_144.out
                have hms26_0 := NB144_139.out
                refine skip_ (w1 := ?_) (by rfl) rfl ?_ ?_
                rotate_left
                · go_simp
                  rfl
                refine hK.out _ _ ⟨((cell_far (p := ⟨gb144, _, none⟩) NB139_144.out _).trans (((cell_far (p := ⟨gb144, _, none⟩) NB139_144.out _).trans (((cell_far (p := ⟨gb144, _, none⟩) NB139_144.out _).trans (((cell_far (p := ⟨gb144, _, none⟩) NB139_144.out _).trans (hHeld.1)))))))), ((cell_far (p := ⟨gb144, _, none⟩) NB139_144.out _).trans (((cell_far (p := ⟨gb144, _, none⟩) NB139_144.out _).trans (((cell_far (p := ⟨gb144, _, none⟩) NB139_144.out _).trans (((cell_far (p := ⟨gb144, _, none⟩) NB139_144.out _).trans (hHeld.2.1)))))))), ((cell_far (p := ⟨gb144, _, none⟩) by3 _).trans (((cell_far (p := ⟨gb144, _, none⟩) by3 _).trans (((cell_far (p := ⟨gb144, _, none⟩) by3 _).trans (((cell_far (p := ⟨gb144, _, none⟩) by3 _).trans (hHeld.2.2.1)))))))), ((cell_far (p := ⟨gb144, _, none⟩) by4 _).trans (((cell_far (p := ⟨gb144, _, none⟩) by4 _).trans (((cell_far (p := ⟨gb144, _, none⟩) by4 _).trans (((cell_far (p := ⟨gb144, _, none⟩) by4 _).trans (hHeld.2.2.2.1)))))))), ((cell_far (p := ⟨gb144, _, none⟩) by5 _).trans (((cell_far (p := ⟨gb144, _, none⟩) by5 _).trans (((cell_far (p := ⟨gb144, _, none⟩) by5 _).trans (((cell_far (p := ⟨gb144, _, none⟩) by5 _).trans (hHeld.2.2.2.2.1)))))))), ((cell_far (p := ⟨gb144, _, none⟩) by6 _).trans (((cell_far (p := ⟨gb144, _, none⟩) by6 _).trans (((cell_far (p := ⟨gb144, _, none⟩) by6 _).trans (((cell_far (p := ⟨gb144, _, none⟩) by6 _).trans (hHeld.2.2.2.2.2))))))))⟩ (fun hHeld => ?_)
                clear hK K
                refine done_ (done_of HT_.out by7) ?_
                have hnb27 := NB139_144.out
                have hnc27 := NB144_139.out
                have hcz28_0 : w22.cell? ⟨gb139, 0, none⟩ = some (.int .i64 a0_0) := (blk_cell BK139.out 0).trans rfl
                have hcz28_1 : w22.cell? ⟨gb139, 1, none⟩ = some (.slice (some ad143) l0_1.length c0_1) := (blk_cell BK139.out 1).trans rfl
                have hfz28_0 := blk_frozen BK139.out 0
                have hfz28_1 := blk_frozen BK139.out 1
                have hcz29_0 : w22.cell? ⟨gb144, 0, none⟩ = some (.int .i64 0) := (blk_cell BK144.out 0).trans rfl
                have hcz29_1 : w22.cell? ⟨gb144, 1, none⟩ = some (.int .i64 0) := (blk_cell BK144.out 1).trans rfl
                have hcz29_2 : w22.cell? ⟨gb144, 2, none⟩ = some (.int .i64 0) := (blk_cell BK144.out 2).trans rfl
                have hcz29_3 : w22.cell? ⟨gb144, 3, none⟩ = some (.string (⟨#[]⟩ : ByteArray)) := (blk_cell BK144.out 3).trans rfl
                have hfz29_0 := blk_frozen BK144.out 0
                have hfz29_1 := blk_frozen BK144.out 1
                have hfz29_2 := blk_frozen BK144.out 2
                have hfz29_3 := blk_frozen BK144.out 3
                try go_wp2_with (first | ((with_reducible refine gate_callee (f := 81) rfl ?_); refine goesL_ (some 40) rfl rfl Try.func81 by7 rfl #[.int .i64 a0_0, .int .i64 ((rd_T111 l0_1 t142).f1), .int .i64 (wrap64 ((wrap64 (((rd_T111 l0_1 t142).f1) + ((rd_T111 l0_1 t142).f2))) - 1))] rfl by2 ?_; (with_reducible refine (spec_l01In.calls a0_0 ((rd_T111 l0_1 t142).f1) (wrap64 ((wrap64 (((rd_T111 l0_1 t142).f1) + ((rd_T111 l0_1 t142).f2))) - 1)) true _ A13.out).mono ?_); rintro e w' ⟨rfl, ⟨nd, rfl⟩⟩; refine ⟨_, rfl, ?_⟩))
                go_ret2
                exact ⟨by first | rfl | (simp [errW_none, errW_some] <;> rfl) | (simp [*, errW_none, errW_some] <;> rfl), by repeat (first | (with_reducible first | exact HB.out | apply below_alloc | apply pw_below_drewN | apply below_drew1 | refine below_set ?_ GE139.out | refine below_set ?_ GE144.out) | exact HB.out)⟩
              · rw [if_neg c15] at H
                have c15b0 : ((Int.tmod a0_0 32) == 0) = false := beq_eq_false_iff_ne.mpr c15
                have c15b1 : ((Int.tmod a0_0 32) != 0) = true := bne_iff_ne.mpr c15
                simp only [Option.some.injEq, Prod.mk.injEq] at H
                obtain ⟨rfl, rfl⟩ := H
                go_enter Try.func117, Try.ntmps117
                try go_wp2_with (first | ((with_reducible refine gate_dst (N := 1) rfl ?_); refine box_event ?hg (N := 1) ?hd (cs := #[.int .i64 a0_0, .slice A0_1 l0_1.length c0_1]) (t := 29) ?hr ?_; (case hd => rfl); (case hg => rfl); (case hr => first | (go_simp; done) | (go_simp; rfl)); intro gb139 hg w30 hbox hb; have n0_ := Aside0.mk (below_step by1 hb); have n1_ := Aside0.mk (hbox); have n2_ := Aside0.mk ((by0 : w.heap.size ≤ gb139)); have n3_ := Aside0.mk ((by0 : w.heap.size ≤ gb139)); clear HB; have HB := n0_; have BK139 := n1_; have GW139 := n2_; have GE139 := n3_; clear n0_ n1_ n2_ n3_; clear hb hbox hg; have hcz31_0 : w30.cell? ⟨gb139, 0, none⟩ = some (.int .i64 a0_0) := (blk_cell BK139.out 0).trans rfl; have hcz31_1 : w30.cell? ⟨gb139, 1, none⟩ = some (.slice A0_1 l0_1.length c0_1) := (blk_cell BK139.out 1).trans rfl; have hfz31_0 := blk_frozen BK139.out 0; have hfz31_1 := blk_frozen BK139.out 1) | ((with_reducible refine gate_callee (f := 185) rfl ?_); refine goesL_ (some 17) rfl rfl Try.func185 by7 rfl #[.agg #[.int .i64 a0_0, .slice A0_1 l0_1.length c0_1]] rfl by2 ?_; (with_reducible refine (spec_l10Segments.calls k a0_0 _ _ l0_1 t140 t141 _ ?side1 ?side2 A8.out).mono ?_); (case side1 => repeat (first | exact (Kd.C_below HR0_1.out HB.out) | (with_reducible refine Kd.C_alloc ?_ _) | (with_reducible refine Kd.C_drewN ?_ _) | (with_reducible refine Kd.C_drew ?_))); (case side2 => exact HC0_1.out); rintro e w32 ⟨rfl, hb⟩; refine ⟨_, rfl, ?_⟩; have n0_ := Aside0.mk (blk_below (g := gb139) (o := .cells #[.int .i64 a0_0, .slice A0_1 l0_1.length c0_1] 29 (0, 0)) by10 hb); have n1_ := Aside0.mk (below_step by14 hb); clear BK139; clear HB; have BK139 := n0_; have HB := n1_; clear n0_ n1_; (try clear hb); (try clear hb2); (try clear hk); (try clear hi)))
                have n0_ := Aside0.mk (blk_drew BK139.out)
                have n1_ := Aside0.mk (below_drew1 HB.out)
                clear BK139
                clear HB
                have BK139 := n0_
                have HB := n1_
                clear n0_ n1_
                have p143 : 0 ≤ (t142 : Int) := of_decide_eq_true by8
                have q143 : t142 < (l0_1.length : Int) := of_decide_eq_true by8
                obtain ⟨ad143, e143, hx143_0, hx143_1, hx143_2, hx143_3⟩ := at_T111 HR0_1.out t142 p143 q143
                have hw143_3 := hx143_3
                have hw143_2 := hx143_2
                have hw143_1 := hx143_1
                have hw143_0 := hx143_0
                cases e143
                replace hx143_0 := (HB.out.cell (World.block_lt_of_cell? w _ hx143_0)).trans hx143_0
                replace hx143_1 := (HB.out.cell (World.block_lt_of_cell? w _ hx143_1)).trans hx143_1
                replace hx143_2 := (HB.out.cell (World.block_lt_of_cell? w _ hx143_2)).trans hx143_2
                replace hx143_3 := (HB.out.cell (World.block_lt_of_cell? w _ hx143_3)).trans hx143_3
                replace p143 := eq_true p143
                replace q143 := eq_true q143
                refine start_ (n := 8) (S := fun w' => w'.cell? ⟨gb139, 0, none⟩ = some (.int .i64 a0_0) ∧ w'.cell? ⟨gb139, 1, none⟩ = some (.slice (some ad143) l0_1.length c0_1) ∧ w'.cell? (ad143.add ((t142).toNat * 4)) = some (.int .i64 ((rd_T111 l0_1 t142).f0)) ∧ w'.cell? ⟨(ad143.add ((t142).toNat * 4)).block, (ad143.add ((t142).toNat * 4)).off + 1, none⟩ = some (.int .i64 ((rd_T111 l0_1 t142).f1)) ∧ w'.cell? ⟨(ad143.add ((t142).toNat * 4)).block, (ad143.add ((t142).toNat * 4)).off + 2, none⟩ = some (.int .i64 ((rd_T111 l0_1 t142).f2)) ∧ w'.cell? ⟨(ad143.add ((t142).toNat * 4)).block, (ad143.add ((t142).toNat * 4)).off + 3, none⟩ = some (.string ((rd_T111 l0_1 t142).f3))) (ds := []) #[false, false, false, false, false, false, false, false] by7 rfl rfl ⟨(blk_cell BK139.out 0).trans rfl, (blk_cell BK139.out 1).trans rfl, ((HB.out.cell (World.block_lt_of_cell? w _ hw143_0)).trans hw143_0), ((HB.out.cell (World.block_lt_of_cell? w _ hw143_1)).trans hw143_1), ((HB.out.cell (World.block_lt_of_cell? w _ hw143_2)).trans hw143_2), ((HB.out.cell (World.block_lt_of_cell? w _ hw143_3)).trans hw143_3)⟩ (fun hHeld => ?_); refine with_tabW spec_l10Check.tab8 spec_l10Check.bits8 (fun HT_ HW_ => ?_)
                generalize w32.drew = w33 at BK139 HB hx143_0 hx143_1 hx143_2 hx143_3 hHeld ⊢
                refine pure_ (i := 0) (N := some 24) (v := ?_) (a' := ?_) #[true, false, false, false, false, false, false, false] rfl rfl (any_of HT_.out by7) (fun _ _ _ h => h) (Or.inl ⟨by rfl, ?_⟩) ?_ ?_
                rotate_left
                · intro w'
                  go_simp
                  with_reducible rfl
                rotate_left
                · simp only [Act.put, List.setIfInBounds_toArray, List.set_cons_zero, List.set_cons_succ, i64_w, i32_w]
                  rfl
                refine take_ (i := 1) (N := some 25) (v := ?_) (a' := ?_) #[true, true, false, false, false, false, false, false] rfl rfl (take_ofW HT_.out HW_.out by7) (fun _ _ _ h => h) (Or.inl ⟨by rfl, ?_⟩) hHeld ?_ ?_
                rotate_left
                · rintro w' ⟨s0, s1, s2, s3, s4, s5⟩
                  go_simp
                  with_reducible rfl
                rotate_left
                · simp only [Act.put, List.setIfInBounds_toArray, List.set_cons_zero, List.set_cons_succ, i64_w, i32_w]
                  rfl
                refine take_ (i := 2) (N := some 26) (v := ?_) (a' := ?_) #[true, true, true, false, false, false, false, false] rfl rfl (take_ofW HT_.out HW_.out by7) (fun _ _ _ h => h) (Or.inl ⟨by rfl, ?_⟩) hHeld ?_ ?_
                rotate_left
                · rintro w' ⟨s0, s1, s2, s3, s4, s5⟩
                  go_simp
                  with_reducible rfl
                rotate_left
                · simp only [Act.put, List.setIfInBounds_toArray, List.set_cons_zero, List.set_cons_succ, i64_w, i32_w]
                  rfl
                refine join_ (σ := Nat) 1 #[true, true, true, true, true, true, true, false] (fun s_ => [(27, .int .i64 t142), (6, .pointer (some ⟨s_, 0, none⟩)), (28, .pointer (some (ad143.add ((t142).toNat * 4)))), (29, .agg #[.int .i64 ((rd_T111 l0_1 t142).f0), .int .i64 ((rd_T111 l0_1 t142).f1), .int .i64 ((rd_T111 l0_1 t142).f2), .string ((rd_T111 l0_1 t142).f3)])]) (fun s_ w' => (w'.cell? ⟨gb139, 0, none⟩ = some (.int .i64 a0_0) ∧ w'.cell? ⟨gb139, 1, none⟩ = some (.slice (some ad143) l0_1.length c0_1) ∧ w'.cell? (ad143.add ((t142).toNat * 4)) = some (.int .i64 ((rd_T111 l0_1 t142).f0)) ∧ w'.cell? ⟨(ad143.add ((t142).toNat * 4)).block, (ad143.add ((t142).toNat * 4)).off + 1, none⟩ = some (.int .i64 ((rd_T111 l0_1 t142).f1)) ∧ w'.cell? ⟨(ad143.add ((t142).toNat * 4)).block, (ad143.add ((t142).toNat * 4)).off + 2, none⟩ = some (.int .i64 ((rd_T111 l0_1 t142).f2)) ∧ w'.cell? ⟨(ad143.add ((t142).toNat * 4)).block, (ad143.add ((t142).toNat * 4)).off + 3, none⟩ = some (.string ((rd_T111 l0_1 t142).f3))) ∧ (w'.heap[gb139]? = some (.cells #[.int .i64 a0_0, .slice (some ad143) l0_1.length c0_1] 29 (0, 0))) ∧ (w'.heap[s_]? = some (.cells #[.int .i64 0, .int .i64 0, .int .i64 0, .string (⟨#[]⟩ : ByteArray)] 111 (0, 0))) ∧ (w.heap.size ≤ s_) ∧ (w.heap.size ≤ s_) ∧ (gb139 ≠ s_) ∧ (s_ ≠ gb139) ∧ (Below w.heap.size w w')) ?_ ?_
                rotate_left
                · intro hCont
                  refine two_ (i := 3) (j := 6) (Ni := some 27) (Nj := some 6) #[true, true, true, true, false, false, false, false] #[true, true, true, false, false, false, true, false] rfl rfl rfl rfl (two_of HT_.out by7) (by decide) (by decide) (fun K hK => ?_) (fun K hK => ?_)
                  · skip
                    refine goes_ Try.func186 by7 rfl #[.agg #[.int .i64 a0_0, .slice (some ad143) l0_1.length c0_1]] (by rfl) rfl rfl by2 ?_
                    with_reducible refine (spec_l10Run.calls k a0_0 _ _ l0_1 t142 _ ?side1 ?side2 A10.out).mono ?_
                    (case side1 => repeat (first | exact (Kd.C_below HR0_1.out HB.out) | (with_reducible refine Kd.C_alloc ?_ _) | (with_reducible refine Kd.C_drewN ?_ _) | (with_reducible refine Kd.C_drew ?_)))
                    (case side2 => exact HC0_1.out)
                    rintro e w34 ⟨rfl, hb⟩
                    refine ⟨_, rfl, ?_⟩
                    have n0_ := Aside0.mk (blk_below (g := gb139) (o := .cells #[.int .i64 a0_0, .slice (some ad143) l0_1.length c0_1] 29 (0, 0)) by10 hb)
                    have n1_ := Aside0.mk (below_step by14 hb)
                    clear BK139
                    clear HB
                    have BK139 := n0_
                    have HB := n1_
                    clear n0_ n1_
                    (try clear hb)
                    (try clear hb2)
                    (try clear hk)
                    (try clear hi)
                    refine hK.out _ _ ⟨(blk_cell BK139.out 0).trans rfl, (blk_cell BK139.out 1).trans rfl, ((HB.out.cell (World.block_lt_of_cell? w _ hw143_0)).trans hw143_0), ((HB.out.cell (World.block_lt_of_cell? w _ hw143_1)).trans hw143_1), ((HB.out.cell (World.block_lt_of_cell? w _ hw143_2)).trans hw143_2), ((HB.out.cell (World.block_lt_of_cell? w _ hw143_3)).trans hw143_3)⟩ (fun hHeld => ?_)
                    clear hK K
                    refine norm_ (a' := ?_) ?_ ?_
                    rotate_left
                    · show Act.put _ (some 27) _ = _
                      simp only [Act.put, List.setIfInBounds_toArray, List.set_cons_zero, List.set_cons_succ, i64_w, i32_w]
                      rfl
                    refine pure_ (i := 4) (N := some 28) (v := ?_) (a' := ?_) #[true, true, true, true, true, false, false, false] rfl rfl (any_of HT_.out by7) (fun _ _ _ h => h) (Or.inl ⟨by rfl, ?_⟩) ?_ ?_
                    rotate_left
                    · intro w'
                      go_simp
                      with_reducible rfl
                    rotate_left
                    · simp only [Act.put, List.setIfInBounds_toArray, List.set_cons_zero, List.set_cons_succ, i64_w, i32_w]
                      rfl
                    refine take_ (i := 5) (N := some 29) (v := ?_) (a' := ?_) #[true, true, true, true, true, true, false, false] rfl rfl (take_ofW HT_.out HW_.out by7) (fun _ _ _ h => h) (Or.inl ⟨by rfl, ?_⟩) hHeld ?_ ?_
                    rotate_left
                    · rintro w' ⟨s0, s1, s2, s3, s4, s5⟩
                      go_simp
                      with_reducible rfl
                    rotate_left
                    · simp only [Act.put, List.setIfInBounds_toArray, List.set_cons_zero, List.set_cons_succ, i64_w, i32_w]
                      rfl
                    refine one_ (i := 6) (N := some 6) #[true, true, true, true, true, true, true, false] rfl rfl (one_of HT_.out by7) (by decide) (fun K hK => ?_)
                    refine box_step ?hg (N := 6) ?hd (cs := #[.int .i64 0, .int .i64 0, .int .i64 0, .string (⟨#[]⟩ : ByteArray)]) (t := 111) ?hr ?_; (case hd => rfl); (case hg => rfl); (case hr => first | (go_simp; done) | (go_simp; rfl))
                    intro gb144 hg w35 hbox hb
                    have n0_ := Aside0.mk (blk_below (g := gb139) (o := .cells #[.int .i64 a0_0, .slice (some ad143) l0_1.length c0_1] 29 (0, 0)) by10 hb)
                    have n1_ := Aside0.mk (below_step by14 hb)
                    have n2_ := Aside0.mk (hbox)
                    have n3_ := Aside0.mk ((by13 : w.heap.size ≤ gb144))
                    have n4_ := Aside0.mk ((by13 : w.heap.size ≤ gb144))
                    have n5_ := Aside0.mk ((by21 : gb139 ≠ gb144))
                    have n6_ := Aside0.mk ((by22 : gb144 ≠ gb139))
                    clear BK139
                    clear HB
                    have BK139 := n0_
                    have HB := n1_
                    have BK144 := n2_
                    have GW144 := n3_
                    have GE144 := n4_
                    have NB139_144 := n5_
                    have NB144_139 := n6_
                    clear n0_ n1_ n2_ n3_ n4_ n5_ n6_
                    clear hb hbox hg
                    refine hK.out _ _ ⟨(blk_cell BK139.out 0).trans rfl, (blk_cell BK139.out 1).trans rfl, ((HB.out.cell (World.block_lt_of_cell? w _ hw143_0)).trans hw143_0), ((HB.out.cell (World.block_lt_of_cell? w _ hw143_1)).trans hw143_1), ((HB.out.cell (World.block_lt_of_cell? w _ hw143_2)).trans hw143_2), ((HB.out.cell (World.block_lt_of_cell? w _ hw143_3)).trans hw143_3)⟩ (fun hHeld => ?_)
                    clear hK K
                    refine norm_ (a' := ?_) ?_ ?_
                    rotate_left
                    · show Act.put _ (some 6) _ = _
                      simp only [Act.put, List.setIfInBounds_toArray, List.set_cons_zero, List.set_cons_succ, i64_w, i32_w]
                      rfl
                    exact norm_ by49 (hCont (gb144) _ ⟨hHeld, by10, by33, GW144.out, GE144.out, NB139_144.out, NB144_139.out, by18⟩)
                  · skip
                    refine box_step ?hg (N := 6) ?hd (cs := #[.int .i64 0, .int .i64 0, .int .i64 0, .string (⟨#[]⟩ : ByteArray)]) (t := 111) ?hr ?_; (case hd => rfl); (case hg => rfl); (case hr => first | (go_simp; done) | (go_simp; rfl))
                    intro gb144 hg w34 hbox hb
                    have n0_ := Aside0.mk (blk_below (g := gb139) (o := .cells #[.int .i64 a0_0, .slice (some ad143) l0_1.length c0_1] 29 (0, 0)) by10 hb)
                    have n1_ := Aside0.mk (below_step by14 hb)
                    have n2_ := Aside0.mk (hbox)
                    have n3_ := Aside0.mk ((by13 : w.heap.size ≤ gb144))
                    have n4_ := Aside0.mk ((by13 : w.heap.size ≤ gb144))
                    have n5_ := Aside0.mk ((by21 : gb139 ≠ gb144))
                    have n6_ := Aside0.mk ((by22 : gb144 ≠ gb139))
                    clear BK139
                    clear HB
                    have BK139 := n0_
                    have HB := n1_
                    have BK144 := n2_
                    have GW144 := n3_
                    have GE144 := n4_
                    have NB139_144 := n5_
                    have NB144_139 := n6_
                    clear n0_ n1_ n2_ n3_ n4_ n5_ n6_
                    clear hb hbox hg
                    refine hK.out _ _ ⟨(blk_cell BK139.out 0).trans rfl, (blk_cell BK139.out 1).trans rfl, ((HB.out.cell (World.block_lt_of_cell? w _ hw143_0)).trans hw143_0), ((HB.out.cell (World.block_lt_of_cell? w _ hw143_1)).trans hw143_1), ((HB.out.cell (World.block_lt_of_cell? w _ hw143_2)).trans hw143_2), ((HB.out.cell (World.block_lt_of_cell? w _ hw143_3)).trans hw143_3)⟩ (fun hHeld => ?_)
                    clear hK K
                    refine norm_ (a' := ?_) ?_ ?_
                    rotate_left
                    · show Act.put _ (some 6) _ = _
                      simp only [Act.put, List.setIfInBounds_toArray, List.set_cons_zero, List.set_cons_succ, i64_w, i32_w]
                      rfl
                    refine one_ (i := 3) (N := some 27) #[true, true, true, true, false, false, true, false] rfl rfl (one_of HT_.out by7) (by decide) (fun K hK => ?_)
                    refine goes_ Try.func186 by7 rfl #[.agg #[.int .i64 a0_0, .slice (some ad143) l0_1.length c0_1]] (by rfl) rfl rfl by2 ?_
                    with_reducible refine (spec_l10Run.calls k a0_0 _ _ l0_1 t142 _ ?side1 ?side2 A10.out).mono ?_
                    (case side1 => repeat (first | exact (Kd.C_below HR0_1.out HB.out) | (with_reducible refine Kd.C_alloc ?_ _) | (with_reducible refine Kd.C_drewN ?_ _) | (with_reducible refine Kd.C_drew ?_)))
                    (case side2 => exact HC0_1.out)
                    rintro e w35 ⟨rfl, hb⟩
                    refine ⟨_, rfl, ?_⟩
                    have n0_ := Aside0.mk (blk_below (g := gb139) (o := .cells #[.int .i64 a0_0, .slice (some ad143) l0_1.length c0_1] 29 (0, 0)) by10 hb)
                    have n1_ := Aside0.mk (blk_below (g := gb144) (o := .cells #[.int .i64 0, .int .i64 0, .int .i64 0, .string (⟨#[]⟩ : ByteArray)] 111 (0, 0)) by33 hb)
                    have n2_ := Aside0.mk (below_step by18 hb)
                    clear BK139
                    clear BK144
                    clear HB
                    have BK139 := n0_
                    have BK144 := n1_
                    have HB := n2_
                    clear n0_ n1_ n2_
                    (try clear hb)
                    (try clear hb2)
                    (try clear hk)
                    (try clear hi)
                    refine hK.out _ _ ⟨(blk_cell BK139.out 0).trans rfl, (blk_cell BK139.out 1).trans rfl, ((HB.out.cell (World.block_lt_of_cell? w _ hw143_0)).trans hw143_0), ((HB.out.cell (World.block_lt_of_cell? w _ hw143_1)).trans hw143_1), ((HB.out.cell (World.block_lt_of_cell? w _ hw143_2)).trans hw143_2), ((HB.out.cell (World.block_lt_of_cell? w _ hw143_3)).trans hw143_3)⟩ (fun hHeld => ?_)
                    clear hK K
                    refine norm_ (a' := ?_) ?_ ?_
                    rotate_left
                    · show Act.put _ (some 27) _ = _
                      simp only [Act.put, List.setIfInBounds_toArray, List.set_cons_zero, List.set_cons_succ, i64_w, i32_w]
                      rfl
                    refine pure_ (i := 4) (N := some 28) (v := ?_) (a' := ?_) #[true, true, true, true, true, false, true, false] rfl rfl (any_of HT_.out by7) (fun _ _ _ h => h) (Or.inl ⟨by rfl, ?_⟩) ?_ ?_
                    rotate_left
                    · intro w'
                      go_simp
                      with_reducible rfl
                    rotate_left
                    · simp only [Act.put, List.setIfInBounds_toArray, List.set_cons_zero, List.set_cons_succ, i64_w, i32_w]
                      rfl
                    refine take_ (i := 5) (N := some 29) (v := ?_) (a' := ?_) #[true, true, true, true, true, true, true, false] rfl rfl (take_ofW HT_.out HW_.out by7) (fun _ _ _ h => h) (Or.inl ⟨by rfl, ?_⟩) hHeld ?_ ?_
                    rotate_left
                    · rintro w' ⟨s0, s1, s2, s3, s4, s5⟩
                      go_simp
                      with_reducible rfl
                    rotate_left
                    · simp only [Act.put, List.setIfInBounds_toArray, List.set_cons_zero, List.set_cons_succ, i64_w, i32_w]
                      rfl
                    exact norm_ by49 (hCont (gb144) _ ⟨hHeld, by10, by33, GW144.out, GE144.out, NB139_144.out, NB144_139.out, by18⟩)
                rintro gb144 w36 ⟨hS_, h0_, h1_, h2_, h3_, h4_, h5_, h6_⟩
                have n0_ : Aside0 (w36.heap[gb139]? = some (.cells #[.int .i64 a0_0, .slice (some ad143) l0_1.length c0_1] 29 (0, 0))) := ⟨h0_⟩
                have n1_ : Aside0 (w36.heap[gb144]? = some (.cells #[.int .i64 0, .int .i64 0, .int .i64 0, .string (⟨#[]⟩ : ByteArray)] 111 (0, 0))) := ⟨h1_⟩
                have n2_ : Aside0 (w.heap.size ≤ gb144) := ⟨h2_⟩
                have n3_ : Aside0 (w.heap.size ≤ gb144) := ⟨h3_⟩
                have n4_ : Aside0 (gb139 ≠ gb144) := ⟨h4_⟩
                have n5_ : Aside0 (gb144 ≠ gb139) := ⟨h5_⟩
                have n6_ : Aside0 (Below w.heap.size w w36) := ⟨h6_⟩
                clear BK139
                clear HB
                clear h0_ h1_ h2_ h3_ h4_ h5_ h6_
                have BK139 := n0_
                have BK144 := n1_
                have GW144 := n2_
                have GE144 := n3_
                have NB139_144 := n4_
                have NB144_139 := n5_
                have HB := n6_
                clear n0_ n1_ n2_ n3_ n4_ n5_ n6_
                have hHeld : w36.cell? ⟨gb139, 0, none⟩ = some (.int .i64 a0_0) ∧ w36.cell? ⟨gb139, 1, none⟩ = some (.slice (some ad143) l0_1.length c0_1) ∧ w36.cell? (ad143.add ((t142).toNat * 4)) = some (.int .i64 ((rd_T111 l0_1 t142).f0)) ∧ w36.cell? ⟨(ad143.add ((t142).toNat * 4)).block, (ad143.add ((t142).toNat * 4)).off + 1, none⟩ = some (.int .i64 ((rd_T111 l0_1 t142).f1)) ∧ w36.cell? ⟨(ad143.add ((t142).toNat * 4)).block, (ad143.add ((t142).toNat * 4)).off + 2, none⟩ = some (.int .i64 ((rd_T111 l0_1 t142).f2)) ∧ w36.cell? ⟨(ad143.add ((t142).toNat * 4)).block, (ad143.add ((t142).toNat * 4)).off + 3, none⟩ = some (.string ((rd_T111 l0_1 t142).f3)) := hS_
                refine norm_ (a' := ?_) ?_ ?_
                rotate_left
                · simp only [putAll, Act.put, List.setIfInBounds_toArray, List.set_cons_zero, List.set_cons_succ]
                  rfl
                refine one_ (i := 7) (N := none) #[true, true, true, true, true, true, true, true] rfl rfl (one_of HT_.out by7) (by decide) (fun K hK => ?_)
                have hs37 : w36.cell? ⟨gb144, 0, none⟩ = some (.int .i64 0) := (blk_cell BK144.out 0).trans rfl
                have hfs37 := blk_frozen BK144.out 0
                have hns37_0 := NB139_144.out
                have hms37_0 := NB144_139.out
                have hs38 : w36.cell? ⟨gb144, 1, none⟩ = some (.int .i64 0) := (blk_cell BK144.out 1).trans rfl
                have hfs38 := blk_frozen BK144.out 1
                have hns38_0 := NB139_144.out
                have hms38_0 := NB144_139.out
                have hs39 : w36.cell? ⟨gb144, 2, none⟩ = some (.int .i64 0) := (blk_cell BK144.out 2).trans rfl
                have hfs39 := blk_frozen BK144.out 2
                have hns39_0 := NB139_144.out
                have hms39_0 := NB144_139.out
                have hs40 : w36.cell? ⟨gb144, 3, none⟩ = some (.string (⟨#[]⟩ : ByteArray)) := (blk_cell BK144.out 3).trans rfl
                have hfs40 := blk_frozen BK144.out 3
                have hns40_0 := NB139_144.out
                have hms40_0 := NB144_139.out
                refine skip_ (w1 := ?_) (by rfl) rfl ?_ ?_
                rotate_left
                · go_simp
                  rfl
                refine hK.out _ _ ⟨((cell_far (p := ⟨gb144, _, none⟩) NB139_144.out _).trans (((cell_far (p := ⟨gb144, _, none⟩) NB139_144.out _).trans (((cell_far (p := ⟨gb144, _, none⟩) NB139_144.out _).trans (((cell_far (p := ⟨gb144, _, none⟩) NB139_144.out _).trans (hHeld.1)))))))), ((cell_far (p := ⟨gb144, _, none⟩) NB139_144.out _).trans (((cell_far (p := ⟨gb144, _, none⟩) NB139_144.out _).trans (((cell_far (p := ⟨gb144, _, none⟩) NB139_144.out _).trans (((cell_far (p := ⟨gb144, _, none⟩) NB139_144.out _).trans (hHeld.2.1)))))))), ((cell_far (p := ⟨gb144, _, none⟩) by3 _).trans (((cell_far (p := ⟨gb144, _, none⟩) by3 _).trans (((cell_far (p := ⟨gb144, _, none⟩) by3 _).trans (((cell_far (p := ⟨gb144, _, none⟩) by3 _).trans (hHeld.2.2.1)))))))), ((cell_far (p := ⟨gb144, _, none⟩) by4 _).trans (((cell_far (p := ⟨gb144, _, none⟩) by4 _).trans (((cell_far (p := ⟨gb144, _, none⟩) by4 _).trans (((cell_far (p := ⟨gb144, _, none⟩) by4 _).trans (hHeld.2.2.2.1)))))))), ((cell_far (p := ⟨gb144, _, none⟩) by5 _).trans (((cell_far (p := ⟨gb144, _, none⟩) by5 _).trans (((cell_far (p := ⟨gb144, _, none⟩) by5 _).trans (((cell_far (p := ⟨gb144, _, none⟩) by5 _).trans (hHeld.2.2.2.2.1)))))))), ((cell_far (p := ⟨gb144, _, none⟩) by6 _).trans (((cell_far (p := ⟨gb144, _, none⟩) by6 _).trans (((cell_far (p := ⟨gb144, _, none⟩) by6 _).trans (((cell_far (p := ⟨gb144, _, none⟩) by6 _).trans (hHeld.2.2.2.2.2))))))))⟩ (fun hHeld => ?_)
                clear hK K
                refine done_ (done_of HT_.out by7) ?_
                have hnb41 := NB139_144.out
                have hnc41 := NB144_139.out
                have hcz42_0 : w36.cell? ⟨gb139, 0, none⟩ = some (.int .i64 a0_0) := (blk_cell BK139.out 0).trans rfl
                have hcz42_1 : w36.cell? ⟨gb139, 1, none⟩ = some (.slice (some ad143) l0_1.length c0_1) := (blk_cell BK139.out 1).trans rfl
                have hfz42_0 := blk_frozen BK139.out 0
                have hfz42_1 := blk_frozen BK139.out 1
                have hcz43_0 : w36.cell? ⟨gb144, 0, none⟩ = some (.int .i64 0) := (blk_cell BK144.out 0).trans rfl
                have hcz43_1 : w36.cell? ⟨gb144, 1, none⟩ = some (.int .i64 0) := (blk_cell BK144.out 1).trans rfl
                have hcz43_2 : w36.cell? ⟨gb144, 2, none⟩ = some (.int .i64 0) := (blk_cell BK144.out 2).trans rfl
                have hcz43_3 : w36.cell? ⟨gb144, 3, none⟩ = some (.string (⟨#[]⟩ : ByteArray)) := (blk_cell BK144.out 3).trans rfl
                have hfz43_0 := blk_frozen BK144.out 0
                have hfz43_1 := blk_frozen BK144.out 1
                have hfz43_2 := blk_frozen BK144.out 2
                have hfz43_3 := blk_frozen BK144.out 3
                try go_wp2_with (first | ((with_reducible refine gate_callee (f := 81) rfl ?_); refine goesL_ (some 40) rfl rfl Try.func81 by7 rfl #[.int .i64 a0_0, .int .i64 ((rd_T111 l0_1 t142).f1), .int .i64 (wrap64 ((wrap64 (((rd_T111 l0_1 t142).f1) + ((rd_T111 l0_1 t142).f2))) - 1))] rfl by2 ?_; (with_reducible refine (spec_l01In.calls a0_0 ((rd_T111 l0_1 t142).f1) (wrap64 ((wrap64 (((rd_T111 l0_1 t142).f1) + ((rd_T111 l0_1 t142).f2))) - 1)) true _ A13.out).mono ?_); rintro e w' ⟨rfl, ⟨nd, rfl⟩⟩; refine ⟨_, rfl, ?_⟩))
                go_ret2
                exact ⟨by first | rfl | (simp [errW_none, errW_some] <;> rfl) | (simp [*, errW_none, errW_some] <;> rfl), by repeat (first | (with_reducible first | exact HB.out | apply below_alloc | apply pw_below_drewN | apply below_drew1 | refine below_set ?_ GE139.out | refine below_set ?_ GE144.out) | exact HB.out)⟩
            · replace c14 := Bool.eq_false_iff.mpr c14
              subst c14
              have H1 : (some (0, 32)) = some (r1, r2) := by rw [if_neg (show ¬ (false = true) by decide)] at H; exact H
              clear H
              have H := H1
              clear H1
              simp only [Option.some.injEq, Prod.mk.injEq] at H
              obtain ⟨rfl, rfl⟩ := H
              go_enter Try.func117, Try.ntmps117
              try go_wp2_with (first | ((with_reducible refine gate_dst (N := 1) rfl ?_); refine box_event ?hg (N := 1) ?hd (cs := #[.int .i64 a0_0, .slice A0_1 l0_1.length c0_1]) (t := 29) ?hr ?_; (case hd => rfl); (case hg => rfl); (case hr => first | (go_simp; done) | (go_simp; rfl)); intro gb139 hg w44 hbox hb; have n0_ := Aside0.mk (below_step by1 hb); have n1_ := Aside0.mk (hbox); have n2_ := Aside0.mk ((by0 : w.heap.size ≤ gb139)); have n3_ := Aside0.mk ((by0 : w.heap.size ≤ gb139)); clear HB; have HB := n0_; have BK139 := n1_; have GW139 := n2_; have GE139 := n3_; clear n0_ n1_ n2_ n3_; clear hb hbox hg; have hcz45_0 : w44.cell? ⟨gb139, 0, none⟩ = some (.int .i64 a0_0) := (blk_cell BK139.out 0).trans rfl; have hcz45_1 : w44.cell? ⟨gb139, 1, none⟩ = some (.slice A0_1 l0_1.length c0_1) := (blk_cell BK139.out 1).trans rfl; have hfz45_0 := blk_frozen BK139.out 0; have hfz45_1 := blk_frozen BK139.out 1) | ((with_reducible refine gate_callee (f := 185) rfl ?_); refine goesL_ (some 17) rfl rfl Try.func185 by7 rfl #[.agg #[.int .i64 a0_0, .slice A0_1 l0_1.length c0_1]] rfl by2 ?_; (with_reducible refine (spec_l10Segments.calls k a0_0 _ _ l0_1 t140 t141 _ ?side1 ?side2 A8.out).mono ?_); (case side1 => repeat (first | exact (Kd.C_below HR0_1.out HB.out) | (with_reducible refine Kd.C_alloc ?_ _) | (with_reducible refine Kd.C_drewN ?_ _) | (with_reducible refine Kd.C_drew ?_))); (case side2 => exact HC0_1.out); rintro e w46 ⟨rfl, hb⟩; refine ⟨_, rfl, ?_⟩; have n0_ := Aside0.mk (blk_below (g := gb139) (o := .cells #[.int .i64 a0_0, .slice A0_1 l0_1.length c0_1] 29 (0, 0)) by10 hb); have n1_ := Aside0.mk (below_step by14 hb); clear BK139; clear HB; have BK139 := n0_; have HB := n1_; clear n0_ n1_; (try clear hb); (try clear hb2); (try clear hk); (try clear hi)))
              have n0_ := Aside0.mk (blk_drew BK139.out)
              have n1_ := Aside0.mk (below_drew1 HB.out)
              clear BK139
              clear HB
              have BK139 := n0_
              have HB := n1_
              clear n0_ n1_
              have p143 : 0 ≤ (t142 : Int) := of_decide_eq_true by8
              have q143 : t142 < (l0_1.length : Int) := of_decide_eq_true by8
              obtain ⟨ad143, e143, hx143_0, hx143_1, hx143_2, hx143_3⟩ := at_T111 HR0_1.out t142 p143 q143
              have hw143_3 := hx143_3
              have hw143_2 := hx143_2
              have hw143_1 := hx143_1
              have hw143_0 := hx143_0
              cases e143
              replace hx143_0 := (HB.out.cell (World.block_lt_of_cell? w _ hx143_0)).trans hx143_0
              replace hx143_1 := (HB.out.cell (World.block_lt_of_cell? w _ hx143_1)).trans hx143_1
              replace hx143_2 := (HB.out.cell (World.block_lt_of_cell? w _ hx143_2)).trans hx143_2
              replace hx143_3 := (HB.out.cell (World.block_lt_of_cell? w _ hx143_3)).trans hx143_3
              replace p143 := eq_true p143
              replace q143 := eq_true q143
              refine start_ (n := 8) (S := fun w' => w'.cell? ⟨gb139, 0, none⟩ = some (.int .i64 a0_0) ∧ w'.cell? ⟨gb139, 1, none⟩ = some (.slice (some ad143) l0_1.length c0_1) ∧ w'.cell? (ad143.add ((t142).toNat * 4)) = some (.int .i64 ((rd_T111 l0_1 t142).f0)) ∧ w'.cell? ⟨(ad143.add ((t142).toNat * 4)).block, (ad143.add ((t142).toNat * 4)).off + 1, none⟩ = some (.int .i64 ((rd_T111 l0_1 t142).f1)) ∧ w'.cell? ⟨(ad143.add ((t142).toNat * 4)).block, (ad143.add ((t142).toNat * 4)).off + 2, none⟩ = some (.int .i64 ((rd_T111 l0_1 t142).f2)) ∧ w'.cell? ⟨(ad143.add ((t142).toNat * 4)).block, (ad143.add ((t142).toNat * 4)).off + 3, none⟩ = some (.string ((rd_T111 l0_1 t142).f3))) (ds := []) #[false, false, false, false, false, false, false, false] by7 rfl rfl ⟨(blk_cell BK139.out 0).trans rfl, (blk_cell BK139.out 1).trans rfl, ((HB.out.cell (World.block_lt_of_cell? w _ hw143_0)).trans hw143_0), ((HB.out.cell (World.block_lt_of_cell? w _ hw143_1)).trans hw143_1), ((HB.out.cell (World.block_lt_of_cell? w _ hw143_2)).trans hw143_2), ((HB.out.cell (World.block_lt_of_cell? w _ hw143_3)).trans hw143_3)⟩ (fun hHeld => ?_); refine with_tabW spec_l10Check.tab8 spec_l10Check.bits8 (fun HT_ HW_ => ?_)
              generalize w46.drew = w47 at BK139 HB hx143_0 hx143_1 hx143_2 hx143_3 hHeld ⊢
              refine pure_ (i := 0) (N := some 24) (v := ?_) (a' := ?_) #[true, false, false, false, false, false, false, false] rfl rfl (any_of HT_.out by7) (fun _ _ _ h => h) (Or.inl ⟨by rfl, ?_⟩) ?_ ?_
              rotate_left
              · intro w'
                go_simp
                with_reducible rfl
              rotate_left
              · simp only [Act.put, List.setIfInBounds_toArray, List.set_cons_zero, List.set_cons_succ, i64_w, i32_w]
                rfl
              refine take_ (i := 1) (N := some 25) (v := ?_) (a' := ?_) #[true, true, false, false, false, false, false, false] rfl rfl (take_ofW HT_.out HW_.out by7) (fun _ _ _ h => h) (Or.inl ⟨by rfl, ?_⟩) hHeld ?_ ?_
              rotate_left
              · rintro w' ⟨s0, s1, s2, s3, s4, s5⟩
                go_simp
                with_reducible rfl
              rotate_left
              · simp only [Act.put, List.setIfInBounds_toArray, List.set_cons_zero, List.set_cons_succ, i64_w, i32_w]
                rfl
              refine take_ (i := 2) (N := some 26) (v := ?_) (a' := ?_) #[true, true, true, false, false, false, false, false] rfl rfl (take_ofW HT_.out HW_.out by7) (fun _ _ _ h => h) (Or.inl ⟨by rfl, ?_⟩) hHeld ?_ ?_
              rotate_left
              · rintro w' ⟨s0, s1, s2, s3, s4, s5⟩
                go_simp
                with_reducible rfl
              rotate_left
              · simp only [Act.put, List.setIfInBounds_toArray, List.set_cons_zero, List.set_cons_succ, i64_w, i32_w]
                rfl
              refine join_ (σ := Nat) 1 #[true, true, true, true, true, true, true, false] (fun s_ => [(27, .int .i64 t142), (6, .pointer (some ⟨s_, 0, none⟩)), (28, .pointer (some (ad143.add ((t142).toNat * 4)))), (29, .agg #[.int .i64 ((rd_T111 l0_1 t142).f0), .int .i64 ((rd_T111 l0_1 t142).f1), .int .i64 ((rd_T111 l0_1 t142).f2), .string ((rd_T111 l0_1 t142).f3)])]) (fun s_ w' => (w'.cell? ⟨gb139, 0, none⟩ = some (.int .i64 a0_0) ∧ w'.cell? ⟨gb139, 1, none⟩ = some (.slice (some ad143) l0_1.length c0_1) ∧ w'.cell? (ad143.add ((t142).toNat * 4)) = some (.int .i64 ((rd_T111 l0_1 t142).f0)) ∧ w'.cell? ⟨(ad143.add ((t142).toNat * 4)).block, (ad143.add ((t142).toNat * 4)).off + 1, none⟩ = some (.int .i64 ((rd_T111 l0_1 t142).f1)) ∧ w'.cell? ⟨(ad143.add ((t142).toNat * 4)).block, (ad143.add ((t142).toNat * 4)).off + 2, none⟩ = some (.int .i64 ((rd_T111 l0_1 t142).f2)) ∧ w'.cell? ⟨(ad143.add ((t142).toNat * 4)).block, (ad143.add ((t142).toNat * 4)).off + 3, none⟩ = some (.string ((rd_T111 l0_1 t142).f3))) ∧ (w'.heap[gb139]? = some (.cells #[.int .i64 a0_0, .slice (some ad143) l0_1.length c0_1] 29 (0, 0))) ∧ (w'.heap[s_]? = some (.cells #[.int .i64 0, .int .i64 0, .int .i64 0, .string (⟨#[]⟩ : ByteArray)] 111 (0, 0))) ∧ (w.heap.size ≤ s_) ∧ (w.heap.size ≤ s_) ∧ (gb139 ≠ s_) ∧ (s_ ≠ gb139) ∧ (Below w.heap.size w w')) ?_ ?_
              rotate_left
              · intro hCont
                refine two_ (i := 3) (j := 6) (Ni := some 27) (Nj := some 6) #[true, true, true, true, false, false, false, false] #[true, true, true, false, false, false, true, false] rfl rfl rfl rfl (two_of HT_.out by7) (by decide) (by decide) (fun K hK => ?_) (fun K hK => ?_)
                · skip
                  refine goes_ Try.func186 by7 rfl #[.agg #[.int .i64 a0_0, .slice (some ad143) l0_1.length c0_1]] (by rfl) rfl rfl by2 ?_
                  with_reducible refine (spec_l10Run.calls k a0_0 _ _ l0_1 t142 _ ?side1 ?side2 A10.out).mono ?_
                  (case side1 => repeat (first | exact (Kd.C_below HR0_1.out HB.out) | (with_reducible refine Kd.C_alloc ?_ _) | (with_reducible refine Kd.C_drewN ?_ _) | (with_reducible refine Kd.C_drew ?_)))
                  (case side2 => exact HC0_1.out)
                  rintro e w48 ⟨rfl, hb⟩
                  refine ⟨_, rfl, ?_⟩
                  have n0_ := Aside0.mk (blk_below (g := gb139) (o := .cells #[.int .i64 a0_0, .slice (some ad143) l0_1.length c0_1] 29 (0, 0)) by10 hb)
                  have n1_ := Aside0.mk (below_step by14 hb)
                  clear BK139
                  clear HB
                  have BK139 := n0_
                  have HB := n1_
                  clear n0_ n1_
                  (try clear hb)
                  (try clear hb2)
                  (try clear hk)
                  (try clear hi)
                  refine hK.out _ _ ⟨(blk_cell BK139.out 0).trans rfl, (blk_cell BK139.out 1).trans rfl, ((HB.out.cell (World.block_lt_of_cell? w _ hw143_0)).trans hw143_0), ((HB.out.cell (World.block_lt_of_cell? w _ hw143_1)).trans hw143_1), ((HB.out.cell (World.block_lt_of_cell? w _ hw143_2)).trans hw143_2), ((HB.out.cell (World.block_lt_of_cell? w _ hw143_3)).trans hw143_3)⟩ (fun hHeld => ?_)
                  clear hK K
                  refine norm_ (a' := ?_) ?_ ?_
                  rotate_left
                  · show Act.put _ (some 27) _ = _
                    simp only [Act.put, List.setIfInBounds_toArray, List.set_cons_zero, List.set_cons_succ, i64_w, i32_w]
                    rfl
                  refine pure_ (i := 4) (N := some 28) (v := ?_) (a' := ?_) #[true, true, true, true, true, false, false, false] rfl rfl (any_of HT_.out by7) (fun _ _ _ h => h) (Or.inl ⟨by rfl, ?_⟩) ?_ ?_
                  rotate_left
                  · intro w'
                    go_simp
                    with_reducible rfl
                  rotate_left
                  · simp only [Act.put, List.setIfInBounds_toArray, List.set_cons_zero, List.set_cons_succ, i64_w, i32_w]
                    rfl
                  refine take_ (i := 5) (N := some 29) (v := ?_) (a' := ?_) #[true, true, true, true, true, true, false, false] rfl rfl (take_ofW HT_.out HW_.out by7) (fun _ _ _ h => h) (Or.inl ⟨by rfl, ?_⟩) hHeld ?_ ?_
                  rotate_left
                  · rintro w' ⟨s0, s1, s2, s3, s4, s5⟩
                    go_simp
                    with_reducible rfl
                  rotate_left
                  · simp only [Act.put, List.setIfInBounds_toArray, List.set_cons_zero, List.set_cons_succ, i64_w, i32_w]
                    rfl
                  refine one_ (i := 6) (N := some 6) #[true, true, true, true, true, true, true, false] rfl rfl (one_of HT_.out by7) (by decide) (fun K hK => ?_)
                  refine box_step ?hg (N := 6) ?hd (cs := #[.int .i64 0, .int .i64 0, .int .i64 0, .string (⟨#[]⟩ : ByteArray)]) (t := 111) ?hr ?_; (case hd => rfl); (case hg => rfl); (case hr => first | (go_simp; done) | (go_simp; rfl))
                  intro gb144 hg w49 hbox hb
                  have n0_ := Aside0.mk (blk_below (g := gb139) (o := .cells #[.int .i64 a0_0, .slice (some ad143) l0_1.length c0_1] 29 (0, 0)) by10 hb)
                  have n1_ := Aside0.mk (below_step by14 hb)
                  have n2_ := Aside0.mk (hbox)
                  have n3_ := Aside0.mk ((by13 : w.heap.size ≤ gb144))
                  have n4_ := Aside0.mk ((by13 : w.heap.size ≤ gb144))
                  have n5_ := Aside0.mk ((by21 : gb139 ≠ gb144))
                  have n6_ := Aside0.mk ((by22 : gb144 ≠ gb139))
                  clear BK139
                  clear HB
                  have BK139 := n0_
                  have HB := n1_
                  have BK144 := n2_
                  have GW144 := n3_
                  have GE144 := n4_
                  have NB139_144 := n5_
                  have NB144_139 := n6_
                  clear n0_ n1_ n2_ n3_ n4_ n5_ n6_
                  clear hb hbox hg
                  refine hK.out _ _ ⟨(blk_cell BK139.out 0).trans rfl, (blk_cell BK139.out 1).trans rfl, ((HB.out.cell (World.block_lt_of_cell? w _ hw143_0)).trans hw143_0), ((HB.out.cell (World.block_lt_of_cell? w _ hw143_1)).trans hw143_1), ((HB.out.cell (World.block_lt_of_cell? w _ hw143_2)).trans hw143_2), ((HB.out.cell (World.block_lt_of_cell? w _ hw143_3)).trans hw143_3)⟩ (fun hHeld => ?_)
                  clear hK K
                  refine norm_ (a' := ?_) ?_ ?_
                  rotate_left
                  · show Act.put _ (some 6) _ = _
                    simp only [Act.put, List.setIfInBounds_toArray, List.set_cons_zero, List.set_cons_succ, i64_w, i32_w]
                    rfl
                  exact norm_ by49 (hCont (gb144) _ ⟨hHeld, by10, by33, GW144.out, GE144.out, NB139_144.out, NB144_139.out, by18⟩)
                · skip
                  refine box_step ?hg (N := 6) ?hd (cs := #[.int .i64 0, .int .i64 0, .int .i64 0, .string (⟨#[]⟩ : ByteArray)]) (t := 111) ?hr ?_; (case hd => rfl); (case hg => rfl); (case hr => first | (go_simp; done) | (go_simp; rfl))
                  intro gb144 hg w48 hbox hb
                  have n0_ := Aside0.mk (blk_below (g := gb139) (o := .cells #[.int .i64 a0_0, .slice (some ad143) l0_1.length c0_1] 29 (0, 0)) by10 hb)
                  have n1_ := Aside0.mk (below_step by14 hb)
                  have n2_ := Aside0.mk (hbox)
                  have n3_ := Aside0.mk ((by13 : w.heap.size ≤ gb144))
                  have n4_ := Aside0.mk ((by13 : w.heap.size ≤ gb144))
                  have n5_ := Aside0.mk ((by21 : gb139 ≠ gb144))
                  have n6_ := Aside0.mk ((by22 : gb144 ≠ gb139))
                  clear BK139
                  clear HB
                  have BK139 := n0_
                  have HB := n1_
                  have BK144 := n2_
                  have GW144 := n3_
                  have GE144 := n4_
                  have NB139_144 := n5_
                  have NB144_139 := n6_
                  clear n0_ n1_ n2_ n3_ n4_ n5_ n6_
                  clear hb hbox hg
                  refine hK.out _ _ ⟨(blk_cell BK139.out 0).trans rfl, (blk_cell BK139.out 1).trans rfl, ((HB.out.cell (World.block_lt_of_cell? w _ hw143_0)).trans hw143_0), ((HB.out.cell (World.block_lt_of_cell? w _ hw143_1)).trans hw143_1), ((HB.out.cell (World.block_lt_of_cell? w _ hw143_2)).trans hw143_2), ((HB.out.cell (World.block_lt_of_cell? w _ hw143_3)).trans hw143_3)⟩ (fun hHeld => ?_)
                  clear hK K
                  refine norm_ (a' := ?_) ?_ ?_
                  rotate_left
                  · show Act.put _ (some 6) _ = _
                    simp only [Act.put, List.setIfInBounds_toArray, List.set_cons_zero, List.set_cons_succ, i64_w, i32_w]
                    rfl
                  refine one_ (i := 3) (N := some 27) #[true, true, true, true, false, false, true, false] rfl rfl (one_of HT_.out by7) (by decide) (fun K hK => ?_)
                  refine goes_ Try.func186 by7 rfl #[.agg #[.int .i64 a0_0, .slice (some ad143) l0_1.length c0_1]] (by rfl) rfl rfl by2 ?_
                  with_reducible refine (spec_l10Run.calls k a0_0 _ _ l0_1 t142 _ ?side1 ?side2 A10.out).mono ?_
                  (case side1 => repeat (first | exact (Kd.C_below HR0_1.out HB.out) | (with_reducible refine Kd.C_alloc ?_ _) | (with_reducible refine Kd.C_drewN ?_ _) | (with_reducible refine Kd.C_drew ?_)))
                  (case side2 => exact HC0_1.out)
                  rintro e w49 ⟨rfl, hb⟩
                  refine ⟨_, rfl, ?_⟩
                  have n0_ := Aside0.mk (blk_below (g := gb139) (o := .cells #[.int .i64 a0_0, .slice (some ad143) l0_1.length c0_1] 29 (0, 0)) by10 hb)
                  have n1_ := Aside0.mk (blk_below (g := gb144) (o := .cells #[.int .i64 0, .int .i64 0, .int .i64 0, .string (⟨#[]⟩ : ByteArray)] 111 (0, 0)) by33 hb)
                  have n2_ := Aside0.mk (below_step by18 hb)
                  clear BK139
                  clear BK144
                  clear HB
                  have BK139 := n0_
                  have BK144 := n1_
                  have HB := n2_
                  clear n0_ n1_ n2_
                  (try clear hb)
                  (try clear hb2)
                  (try clear hk)
                  (try clear hi)
                  refine hK.out _ _ ⟨(blk_cell BK139.out 0).trans rfl, (blk_cell BK139.out 1).trans rfl, ((HB.out.cell (World.block_lt_of_cell? w _ hw143_0)).trans hw143_0), ((HB.out.cell (World.block_lt_of_cell? w _ hw143_1)).trans hw143_1), ((HB.out.cell (World.block_lt_of_cell? w _ hw143_2)).trans hw143_2), ((HB.out.cell (World.block_lt_of_cell? w _ hw143_3)).trans hw143_3)⟩ (fun hHeld => ?_)
                  clear hK K
                  refine norm_ (a' := ?_) ?_ ?_
                  rotate_left
                  · show Act.put _ (some 27) _ = _
                    simp only [Act.put, List.setIfInBounds_toArray, List.set_cons_zero, List.set_cons_succ, i64_w, i32_w]
                    rfl
                  refine pure_ (i := 4) (N := some 28) (v := ?_) (a' := ?_) #[true, true, true, true, true, false, true, false] rfl rfl (any_of HT_.out by7) (fun _ _ _ h => h) (Or.inl ⟨by rfl, ?_⟩) ?_ ?_
                  rotate_left
                  · intro w'
                    go_simp
                    with_reducible rfl
                  rotate_left
                  · simp only [Act.put, List.setIfInBounds_toArray, List.set_cons_zero, List.set_cons_succ, i64_w, i32_w]
                    rfl
                  refine take_ (i := 5) (N := some 29) (v := ?_) (a' := ?_) #[true, true, true, true, true, true, true, false] rfl rfl (take_ofW HT_.out HW_.out by7) (fun _ _ _ h => h) (Or.inl ⟨by rfl, ?_⟩) hHeld ?_ ?_
                  rotate_left
                  · rintro w' ⟨s0, s1, s2, s3, s4, s5⟩
                    go_simp
                    with_reducible rfl
                  rotate_left
                  · simp only [Act.put, List.setIfInBounds_toArray, List.set_cons_zero, List.set_cons_succ, i64_w, i32_w]
                    rfl
                  exact norm_ by49 (hCont (gb144) _ ⟨hHeld, by10, by33, GW144.out, GE144.out, NB139_144.out, NB144_139.out, by18⟩)
              rintro gb144 w50 ⟨hS_, h0_, h1_, h2_, h3_, h4_, h5_, h6_⟩
              have n0_ : Aside0 (w50.heap[gb139]? = some (.cells #[.int .i64 a0_0, .slice (some ad143) l0_1.length c0_1] 29 (0, 0))) := ⟨h0_⟩
              have n1_ : Aside0 (w50.heap[gb144]? = some (.cells #[.int .i64 0, .int .i64 0, .int .i64 0, .string (⟨#[]⟩ : ByteArray)] 111 (0, 0))) := ⟨h1_⟩
              have n2_ : Aside0 (w.heap.size ≤ gb144) := ⟨h2_⟩
              have n3_ : Aside0 (w.heap.size ≤ gb144) := ⟨h3_⟩
              have n4_ : Aside0 (gb139 ≠ gb144) := ⟨h4_⟩
              have n5_ : Aside0 (gb144 ≠ gb139) := ⟨h5_⟩
              have n6_ : Aside0 (Below w.heap.size w w50) := ⟨h6_⟩
              clear BK139
              clear HB
              clear h0_ h1_ h2_ h3_ h4_ h5_ h6_
              have BK139 := n0_
              have BK144 := n1_
              have GW144 := n2_
              have GE144 := n3_
              have NB139_144 := n4_
              have NB144_139 := n5_
              have HB := n6_
              clear n0_ n1_ n2_ n3_ n4_ n5_ n6_
              have hHeld : w50.cell? ⟨gb139, 0, none⟩ = some (.int .i64 a0_0) ∧ w50.cell? ⟨gb139, 1, none⟩ = some (.slice (some ad143) l0_1.length c0_1) ∧ w50.cell? (ad143.add ((t142).toNat * 4)) = some (.int .i64 ((rd_T111 l0_1 t142).f0)) ∧ w50.cell? ⟨(ad143.add ((t142).toNat * 4)).block, (ad143.add ((t142).toNat * 4)).off + 1, none⟩ = some (.int .i64 ((rd_T111 l0_1 t142).f1)) ∧ w50.cell? ⟨(ad143.add ((t142).toNat * 4)).block, (ad143.add ((t142).toNat * 4)).off + 2, none⟩ = some (.int .i64 ((rd_T111 l0_1 t142).f2)) ∧ w50.cell? ⟨(ad143.add ((t142).toNat * 4)).block, (ad143.add ((t142).toNat * 4)).off + 3, none⟩ = some (.string ((rd_T111 l0_1 t142).f3)) := hS_
              refine norm_ (a' := ?_) ?_ ?_
              rotate_left
              · simp only [putAll, Act.put, List.setIfInBounds_toArray, List.set_cons_zero, List.set_cons_succ]
                rfl
              refine one_ (i := 7) (N := none) #[true, true, true, true, true, true, true, true] rfl rfl (one_of HT_.out by7) (by decide) (fun K hK => ?_)
              have hs51 : w50.cell? ⟨gb144, 0, none⟩ = some (.int .i64 0) := (blk_cell BK144.out 0).trans rfl
              have hfs51 := blk_frozen BK144.out 0
              have hns51_0 := NB139_144.out
              have hms51_0 := NB144_139.out
              have hs52 : w50.cell? ⟨gb144, 1, none⟩ = some (.int .i64 0) := (blk_cell BK144.out 1).trans rfl
              have hfs52 := blk_frozen BK144.out 1
              have hns52_0 := NB139_144.out
              have hms52_0 := NB144_139.out
              have hs53 : w50.cell? ⟨gb144, 2, none⟩ = some (.int .i64 0) := (blk_cell BK144.out 2).trans rfl
              have hfs53 := blk_frozen BK144.out 2
              have hns53_0 := NB139_144.out
              have hms53_0 := NB144_139.out
              have hs54 : w50.cell? ⟨gb144, 3, none⟩ = some (.string (⟨#[]⟩ : ByteArray)) := (blk_cell BK144.out 3).trans rfl
              have hfs54 := blk_frozen BK144.out 3
              have hns54_0 := NB139_144.out
              have hms54_0 := NB144_139.out
              refine skip_ (w1 := ?_) (by rfl) rfl ?_ ?_
              rotate_left
              · go_simp
                rfl
              refine hK.out _ _ ⟨((cell_far (p := ⟨gb144, _, none⟩) NB139_144.out _).trans (((cell_far (p := ⟨gb144, _, none⟩) NB139_144.out _).trans (((cell_far (p := ⟨gb144, _, none⟩) NB139_144.out _).trans (((cell_far (p := ⟨gb144, _, none⟩) NB139_144.out _).trans (hHeld.1)))))))), ((cell_far (p := ⟨gb144, _, none⟩) NB139_144.out _).trans (((cell_far (p := ⟨gb144, _, none⟩) NB139_144.out _).trans (((cell_far (p := ⟨gb144, _, none⟩) NB139_144.out _).trans (((cell_far (p := ⟨gb144, _, none⟩) NB139_144.out _).trans (hHeld.2.1)))))))), ((cell_far (p := ⟨gb144, _, none⟩) by3 _).trans (((cell_far (p := ⟨gb144, _, none⟩) by3 _).trans (((cell_far (p := ⟨gb144, _, none⟩) by3 _).trans (((cell_far (p := ⟨gb144, _, none⟩) by3 _).trans (hHeld.2.2.1)))))))), ((cell_far (p := ⟨gb144, _, none⟩) by4 _).trans (((cell_far (p := ⟨gb144, _, none⟩) by4 _).trans (((cell_far (p := ⟨gb144, _, none⟩) by4 _).trans (((cell_far (p := ⟨gb144, _, none⟩) by4 _).trans (hHeld.2.2.2.1)))))))), ((cell_far (p := ⟨gb144, _, none⟩) by5 _).trans (((cell_far (p := ⟨gb144, _, none⟩) by5 _).trans (((cell_far (p := ⟨gb144, _, none⟩) by5 _).trans (((cell_far (p := ⟨gb144, _, none⟩) by5 _).trans (hHeld.2.2.2.2.1)))))))), ((cell_far (p := ⟨gb144, _, none⟩) by6 _).trans (((cell_far (p := ⟨gb144, _, none⟩) by6 _).trans (((cell_far (p := ⟨gb144, _, none⟩) by6 _).trans (((cell_far (p := ⟨gb144, _, none⟩) by6 _).trans (hHeld.2.2.2.2.2))))))))⟩ (fun hHeld => ?_)
              clear hK K
              refine done_ (done_of HT_.out by7) ?_
              have hnb55 := NB139_144.out
              have hnc55 := NB144_139.out
              have hcz56_0 : w50.cell? ⟨gb139, 0, none⟩ = some (.int .i64 a0_0) := (blk_cell BK139.out 0).trans rfl
              have hcz56_1 : w50.cell? ⟨gb139, 1, none⟩ = some (.slice (some ad143) l0_1.length c0_1) := (blk_cell BK139.out 1).trans rfl
              have hfz56_0 := blk_frozen BK139.out 0
              have hfz56_1 := blk_frozen BK139.out 1
              have hcz57_0 : w50.cell? ⟨gb144, 0, none⟩ = some (.int .i64 0) := (blk_cell BK144.out 0).trans rfl
              have hcz57_1 : w50.cell? ⟨gb144, 1, none⟩ = some (.int .i64 0) := (blk_cell BK144.out 1).trans rfl
              have hcz57_2 : w50.cell? ⟨gb144, 2, none⟩ = some (.int .i64 0) := (blk_cell BK144.out 2).trans rfl
              have hcz57_3 : w50.cell? ⟨gb144, 3, none⟩ = some (.string (⟨#[]⟩ : ByteArray)) := (blk_cell BK144.out 3).trans rfl
              have hfz57_0 := blk_frozen BK144.out 0
              have hfz57_1 := blk_frozen BK144.out 1
              have hfz57_2 := blk_frozen BK144.out 2
              have hfz57_3 := blk_frozen BK144.out 3
              try go_wp2_with (first | ((with_reducible refine gate_callee (f := 81) rfl ?_); refine goesL_ (some 40) rfl rfl Try.func81 by7 rfl #[.int .i64 a0_0, .int .i64 ((rd_T111 l0_1 t142).f1), .int .i64 (wrap64 ((wrap64 (((rd_T111 l0_1 t142).f1) + ((rd_T111 l0_1 t142).f2))) - 1))] rfl by2 ?_; (with_reducible refine (spec_l01In.calls a0_0 ((rd_T111 l0_1 t142).f1) (wrap64 ((wrap64 (((rd_T111 l0_1 t142).f1) + ((rd_T111 l0_1 t142).f2))) - 1)) false _ A13.out).mono ?_); rintro e w' ⟨rfl, ⟨nd, rfl⟩⟩; refine ⟨_, rfl, ?_⟩))
              go_ret2
              exact ⟨by first | rfl | (simp [errW_none, errW_some] <;> rfl) | (simp [*, errW_none, errW_some] <;> rfl), by repeat (first | (with_reducible first | exact HB.out | apply below_alloc | apply pw_below_drewN | apply below_drew1 | refine below_set ?_ GE139.out | refine below_set ?_ GE144.out) | exact HB.out)⟩
          · rw [if_neg c12] at H
            exact absurd H (by simp)
        · rw [if_neg c11] at H
          exact absurd H (by simp)
      · rw [if_neg c9] at H
        have c9b0 : (t141 == 0) = false := beq_eq_false_iff_ne.mpr c9
        have c9b1 : (t141 != 0) = true := bne_iff_ne.mpr c9
        simp only [Option.some.injEq, Prod.mk.injEq] at H
        obtain ⟨rfl, rfl⟩ := H
        go_enter Try.func117, Try.ntmps117
        go_wp2_with (first | ((with_reducible refine gate_dst (N := 1) rfl ?_); refine box_event ?hg (N := 1) ?hd (cs := #[.int .i64 a0_0, .slice A0_1 l0_1.length c0_1]) (t := 29) ?hr ?_; (case hd => rfl); (case hg => rfl); (case hr => first | (go_simp; done) | (go_simp; rfl)); intro gb139 hg w58 hbox hb; have n0_ := Aside0.mk (below_step by1 hb); have n1_ := Aside0.mk (hbox); have n2_ := Aside0.mk ((by0 : w.heap.size ≤ gb139)); have n3_ := Aside0.mk ((by0 : w.heap.size ≤ gb139)); clear HB; have HB := n0_; have BK139 := n1_; have GW139 := n2_; have GE139 := n3_; clear n0_ n1_ n2_ n3_; clear hb hbox hg; have hcz59_0 : w58.cell? ⟨gb139, 0, none⟩ = some (.int .i64 a0_0) := (blk_cell BK139.out 0).trans rfl; have hcz59_1 : w58.cell? ⟨gb139, 1, none⟩ = some (.slice A0_1 l0_1.length c0_1) := (blk_cell BK139.out 1).trans rfl; have hfz59_0 := blk_frozen BK139.out 0; have hfz59_1 := blk_frozen BK139.out 1) | ((with_reducible refine gate_callee (f := 185) rfl ?_); refine goesL_ (some 17) rfl rfl Try.func185 by7 rfl #[.agg #[.int .i64 a0_0, .slice A0_1 l0_1.length c0_1]] rfl by2 ?_; (with_reducible refine (spec_l10Segments.calls k a0_0 _ _ l0_1 t140 t141 _ ?side1 ?side2 A8.out).mono ?_); (case side1 => repeat (first | exact (Kd.C_below HR0_1.out HB.out) | (with_reducible refine Kd.C_alloc ?_ _) | (with_reducible refine Kd.C_drewN ?_ _) | (with_reducible refine Kd.C_drew ?_))); (case side2 => exact HC0_1.out); rintro e w60 ⟨rfl, hb⟩; refine ⟨_, rfl, ?_⟩; have n0_ := Aside0.mk (blk_below (g := gb139) (o := .cells #[.int .i64 a0_0, .slice A0_1 l0_1.length c0_1] 29 (0, 0)) by10 hb); have n1_ := Aside0.mk (below_step by14 hb); clear BK139; clear HB; have BK139 := n0_; have HB := n1_; clear n0_ n1_; (try clear hb); (try clear hb2); (try clear hk); (try clear hi)))
        go_ret2
        exact ⟨by first | rfl | (simp [errW_none, errW_some] <;> rfl) | (simp [*, errW_none, errW_some] <;> rfl), by repeat (first | (with_reducible first | exact HB.out | apply below_alloc | apply pw_below_drewN | apply below_drew1 | refine below_set ?_ GE139.out) | exact HB.out)⟩

end Go.Proofs.Ytigoabhkdipdeaa.PFnExactElfText
