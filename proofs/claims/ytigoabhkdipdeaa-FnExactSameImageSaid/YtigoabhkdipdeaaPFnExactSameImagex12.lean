/- Laid by a program of this session (patch_print.py) out of the translation: plain functions and what the calls do. No condition. -/
import Derived.Test.YtigoabhkdipdeaaPFnExactSameImagex0
import Derived.Test.YtigoabhkdipdeaaPFnExactSameImagex2
import Derived.Test.YtigoabhkdipdeaaPFnExactSameImagex8
import Derived.Test.YtigoabhkdipdeaaPFnExactSameImagex10
import Derived.Test.YtigoabhkdipdeaaPFnExactSameImagex11
namespace Go.Proofs.Ytigoabhkdipdeaa.PFnExactSameImage
open Go.RowKit Go.Proofs.YtigoabhkdipdeaaW.PrintWords Go.Proofs.YtigoabhkdipdeaaW.PrintLast Go.Proofs.YtigoabhkdipdeaaW.PrintMore
attribute [local go_sem] max2_int min2_int max_two min_two max_three min_three max_four min_four   -- for this text's walks alone
set_option linter.unusedVariables false
set_option linter.unusedSimpArgs false

/-! ### laws_FnExactSameImage: function 3 -/
def laws_FnExactSameImage.f (k : Nat) (a0_0 : Int) (l0_1 : List (S149)) (a1_0 : Int) (l1_1 : List (S149)) : Option (Bool) := (laws_szImage.f k a0_0 l0_1 1048576).bind fun t222 => (if t222 < 0 then (some true) else ((laws_szImage.f k a1_0 l1_1 t222).bind fun t223 => (if t223 < 0 then (some true) else ((laws_toImage.f k a0_0 l0_1).bind fun bt224 => ((laws_toImage.f k a1_0 l1_1).bind fun bt228 => ((spec_SameImage.f k bt224.1 bt224.2 bt228.1 bt228.2).bind fun t232 => ((laws_toImage.f k a0_0 l0_1).bind fun bt233 => ((laws_toImage.f k a1_0 l1_1).bind fun bt238 => ((impl_SameImage.f k bt233.1 bt233.2 bt238.1 bt238.2).bind fun t243 => (if (t243 != t232) = true then (some false) else ((laws_toImage.f k a0_0 l0_1).bind fun bt244 => ((laws_eqImage.f k bt233.1 bt233.2 bt244.1 bt244.2).bind fun t248 => (if t248 = true then ((laws_toImage.f k a1_0 l1_1).bind fun bt249 => ((laws_eqImage.f k bt238.1 bt238.2 bt249.1 bt249.2).bind fun t253 => (if t253 = true then (some true) else (some false)))) else (some false))))))))))))))
theorem laws_FnExactSameImage.mono : ∀ a0 a1 a2 a3 k, LeO (laws_FnExactSameImage.f k a0 a1 a2 a3) (laws_FnExactSameImage.f (k + 1) a0 a1 a2 a3) := by
  intro a0 a1 a2 a3 k
  unfold laws_FnExactSameImage.f
  repeat' first
      | (with_reducible exact impl_SameImage.mono _ _ _ _ _)
      | (with_reducible exact laws_eqImage.mono _ _ _ _ _)
      | (with_reducible exact laws_szImage.mono _ _ _ _)
      | (with_reducible exact laws_toImage.mono _ _ _)
      | (with_reducible exact spec_SameImage.mono _ _ _ _ _)
      | (with_reducible exact LeO.refl _)
      | (with_reducible exact LeO.none _)
      | (with_reducible refine LeO.ite ?_ ?_)
      | (with_reducible refine LeO.bind ?_ (fun _ => ?_))
      | exact impl_SameImage.mono _ _ _ _ _
      | exact laws_eqImage.mono _ _ _ _ _
      | exact laws_szImage.mono _ _ _ _
      | exact laws_toImage.mono _ _ _
      | exact spec_SameImage.mono _ _ _ _ _
      | exact LeO.none _
      | refine LeO.ite ?_ ?_
      | refine LeO.bind ?_ (fun _ => ?_)
set_option maxHeartbeats 8000000 in
set_option maxRecDepth 100000 in
theorem laws_FnExactSameImage.calls (k : Nat) (a0_0 : Int) (A0_1 : Option Addr) (c0_1 : Nat) (l0_1 : List (S149)) (a1_0 : Int) (A1_1 : Option Addr) (c1_1 : Nat) (l1_1 : List (S149)) (r : Bool) (w : World) (hr0_1 : Kd.C k149 w A0_1 l0_1.length l0_1) (hc0_1 : l0_1.length ≤ c0_1) (hr1_1 : Kd.C k149 w A1_1 l1_1.length l1_1) (hc1_1 : l1_1.length ≤ c1_1) (h : laws_FnExactSameImage.f k a0_0 l0_1 a1_0 l1_1 = some r) :
    Calls Try.prog 3 #[.agg #[.int .i64 a0_0, .slice A0_1 l0_1.length c0_1], .agg #[.int .i64 a1_0, .slice A1_1 l1_1.length c1_1]] w fun e w' => e = .returned (.bool r) ∧ Below w.heap.size w w' := by
  have hu24 := Try.underlying24
  have hu29 := Try.underlying29
  have HR0_1 := Aside0.mk hr0_1
  have HC0_1 := Aside0.mk hc0_1
  clear hr0_1 hc0_1
  have HR1_1 := Aside0.mk hr1_1
  have HC1_1 := Aside0.mk hc1_1
  clear hr1_1 hc1_1
  have HB := Aside0.mk (Below.refl w.heap.size w)
  have H : ((laws_szImage.f k a0_0 l0_1 1048576).bind fun t222 => (if t222 < 0 then (some true) else ((laws_szImage.f k a1_0 l1_1 t222).bind fun t223 => (if t223 < 0 then (some true) else ((laws_toImage.f k a0_0 l0_1).bind fun bt224 => ((laws_toImage.f k a1_0 l1_1).bind fun bt228 => ((spec_SameImage.f k bt224.1 bt224.2 bt228.1 bt228.2).bind fun t232 => ((laws_toImage.f k a0_0 l0_1).bind fun bt233 => ((laws_toImage.f k a1_0 l1_1).bind fun bt238 => ((impl_SameImage.f k bt233.1 bt233.2 bt238.1 bt238.2).bind fun t243 => (if (t243 != t232) = true then (some false) else ((laws_toImage.f k a0_0 l0_1).bind fun bt244 => ((laws_eqImage.f k bt233.1 bt233.2 bt244.1 bt244.2).bind fun t248 => (if t248 = true then ((laws_toImage.f k a1_0 l1_1).bind fun bt249 => ((laws_eqImage.f k bt238.1 bt238.2 bt249.1 bt249.2).bind fun t253 => (if t253 = true then (some true) else (some false)))) else (some false))))))))))))))) = some r := h
  clear h
  replace H := Option.bind_eq_some_iff.mp H
  obtain ⟨t222, A30, H⟩ := H
  replace H : (if t222 < 0 then (some true) else ((laws_szImage.f k a1_0 l1_1 t222).bind fun t223 => (if t223 < 0 then (some true) else ((laws_toImage.f k a0_0 l0_1).bind fun bt224 => ((laws_toImage.f k a1_0 l1_1).bind fun bt228 => ((spec_SameImage.f k bt224.1 bt224.2 bt228.1 bt228.2).bind fun t232 => ((laws_toImage.f k a0_0 l0_1).bind fun bt233 => ((laws_toImage.f k a1_0 l1_1).bind fun bt238 => ((impl_SameImage.f k bt233.1 bt233.2 bt238.1 bt238.2).bind fun t243 => (if (t243 != t232) = true then (some false) else ((laws_toImage.f k a0_0 l0_1).bind fun bt244 => ((laws_eqImage.f k bt233.1 bt233.2 bt244.1 bt244.2).bind fun t248 => (if t248 = true then ((laws_toImage.f k a1_0 l1_1).bind fun bt249 => ((laws_eqImage.f k bt238.1 bt238.2 bt249.1 bt249.2).bind fun t253 => (if t253 = true then (some true) else (some false)))) else (some false)))))))))))))) = some r := H
  have A3 := Aside0.mk A30
  clear A30
  by_cases c4 : t222 < 0
  · rw [if_pos c4] at H
    have c4b0 : decide (t222 < 0) = true := decide_eq_true c4
    clear c4
    obtain rfl := Option.some.inj H
    go_enter Try.func3, Try.ntmps3
    go_wp2_with (first | ((with_reducible refine gate_dst (N := 2) rfl ?_); refine box_event ?hg (N := 2) ?hd (cs := #[.int .i64 a0_0, .slice A0_1 l0_1.length c0_1]) (t := 24) ?hr ?_; (case hd => rfl); (case hg => rfl); (case hr => first | (go_simp; done) | (go_simp; rfl)); intro gb220 hg w5 hbox hb; have n0_ := Aside0.mk (below_step by2 hb); have n1_ := Aside0.mk (hbox); have n2_ := Aside0.mk ((by0 : w.heap.size ≤ gb220)); have n3_ := Aside0.mk ((by0 : w.heap.size ≤ gb220)); clear HB; have HB := n0_; have BK220 := n1_; have GW220 := n2_; have GE220 := n3_; clear n0_ n1_ n2_ n3_; clear hb hbox hg) | ((with_reducible refine gate_dst (N := 3) rfl ?_); refine box_event ?hg (N := 3) ?hd (cs := #[.int .i64 a1_0, .slice A1_1 l1_1.length c1_1]) (t := 24) ?hr ?_; (case hd => rfl); (case hg => rfl); (case hr => first | (go_simp; done) | (go_simp; rfl)); intro gb221 hg w6 hbox hb; have n0_ := Aside0.mk (blk_below (g := gb220) (o := .cells #[.int .i64 a0_0, .slice A0_1 l0_1.length c0_1] 24 (0, 0)) by9 hb); have n1_ := Aside0.mk (below_step by60 hb); have n2_ := Aside0.mk (hbox); have n3_ := Aside0.mk ((by24 : w.heap.size ≤ gb221)); have n4_ := Aside0.mk ((by24 : w.heap.size ≤ gb221)); have n5_ := Aside0.mk ((by15 : gb220 ≠ gb221)); have n6_ := Aside0.mk ((by16 : gb221 ≠ gb220)); clear BK220; clear HB; have BK220 := n0_; have HB := n1_; have BK221 := n2_; have GW221 := n3_; have GE221 := n4_; have NB220_221 := n5_; have NB221_220 := n6_; clear n0_ n1_ n2_ n3_ n4_ n5_ n6_; clear hb hbox hg; have hnb7 := NB220_221.out; have hnc7 := NB221_220.out; have hcz8_0 : w6.cell? ⟨gb220, 0, none⟩ = some (.int .i64 a0_0) := (blk_cell BK220.out 0).trans rfl; have hcz8_1 : w6.cell? ⟨gb220, 1, none⟩ = some (.slice A0_1 l0_1.length c0_1) := (blk_cell BK220.out 1).trans rfl; have hfz8_0 := blk_frozen BK220.out 0; have hfz8_1 := blk_frozen BK220.out 1) | ((with_reducible refine gate_callee (f := 15) rfl ?_); refine goesL_ (some 12) rfl rfl Try.func15 by8 rfl #[.agg #[.int .i64 a0_0, .slice A0_1 l0_1.length c0_1], .int .i64 1048576] rfl by1 ?_; (with_reducible refine (laws_szImage.calls k a0_0 _ _ l0_1 1048576 t222 _ ?side1 ?side2 A3.out).mono ?_); (case side1 => repeat (first | exact (Kd.C_below HR0_1.out HB.out) | (with_reducible refine Kd.C_alloc ?_ _) | (with_reducible refine Kd.C_drewN ?_ _) | (with_reducible refine Kd.C_drew ?_))); (case side2 => exact HC0_1.out); rintro e w9 ⟨rfl, hb⟩; refine ⟨_, rfl, ?_⟩; have n0_ := Aside0.mk (blk_below (g := gb220) (o := .cells #[.int .i64 a0_0, .slice A0_1 l0_1.length c0_1] 24 (0, 0)) by9 hb); have n1_ := Aside0.mk (blk_below (g := gb221) (o := .cells #[.int .i64 a1_0, .slice A1_1 l1_1.length c1_1] 24 (0, 0)) by10 hb); have n2_ := Aside0.mk (below_step by3 hb); clear BK220; clear BK221; clear HB; have BK220 := n0_; have BK221 := n1_; have HB := n2_; clear n0_ n1_ n2_; (try clear hb); (try clear hb2); (try clear hk); (try clear hi)))
    go_ret
    exact ⟨by first | rfl | (simp [errW_none, errW_some] <;> rfl) | (simp [*, errW_none, errW_some] <;> rfl), by repeat (first | (with_reducible first | exact HB.out | apply below_alloc | apply pw_below_drewN | apply below_drew1 | refine below_set ?_ GE220.out | refine below_set ?_ GE221.out) | exact HB.out)⟩
  · rw [if_neg c4] at H
    have c4b0 : decide (t222 < 0) = false := decide_eq_false c4
    clear c4
    replace H := Option.bind_eq_some_iff.mp H
    obtain ⟨t223, A100, H⟩ := H
    replace H : (if t223 < 0 then (some true) else ((laws_toImage.f k a0_0 l0_1).bind fun bt224 => ((laws_toImage.f k a1_0 l1_1).bind fun bt228 => ((spec_SameImage.f k bt224.1 bt224.2 bt228.1 bt228.2).bind fun t232 => ((laws_toImage.f k a0_0 l0_1).bind fun bt233 => ((laws_toImage.f k a1_0 l1_1).bind fun bt238 => ((impl_SameImage.f k bt233.1 bt233.2 bt238.1 bt238.2).bind fun t243 => (if (t243 != t232) = true then (some false) else ((laws_toImage.f k a0_0 l0_1).bind fun bt244 => ((laws_eqImage.f k bt233.1 bt233.2 bt244.1 bt244.2).bind fun t248 => (if t248 = true then ((laws_toImage.f k a1_0 l1_1).bind fun bt249 => ((laws_eqImage.f k bt238.1 bt238.2 bt249.1 bt249.2).bind fun t253 => (if t253 = true then (some true) else (some false)))) else (some false)))))))))))) = some r := H
    have A10 := Aside0.mk A100
    clear A100
    by_cases c11 : t223 < 0
    · rw [if_pos c11] at H
      have c11b0 : decide (t223 < 0) = true := decide_eq_true c11
      clear c11
      obtain rfl := Option.some.inj H
      go_enter Try.func3, Try.ntmps3
      go_wp2_with (first | ((with_reducible refine gate_dst (N := 2) rfl ?_); refine box_event ?hg (N := 2) ?hd (cs := #[.int .i64 a0_0, .slice A0_1 l0_1.length c0_1]) (t := 24) ?hr ?_; (case hd => rfl); (case hg => rfl); (case hr => first | (go_simp; done) | (go_simp; rfl)); intro gb220 hg w12 hbox hb; have n0_ := Aside0.mk (below_step by2 hb); have n1_ := Aside0.mk (hbox); have n2_ := Aside0.mk ((by0 : w.heap.size ≤ gb220)); have n3_ := Aside0.mk ((by0 : w.heap.size ≤ gb220)); clear HB; have HB := n0_; have BK220 := n1_; have GW220 := n2_; have GE220 := n3_; clear n0_ n1_ n2_ n3_; clear hb hbox hg) | ((with_reducible refine gate_dst (N := 3) rfl ?_); refine box_event ?hg (N := 3) ?hd (cs := #[.int .i64 a1_0, .slice A1_1 l1_1.length c1_1]) (t := 24) ?hr ?_; (case hd => rfl); (case hg => rfl); (case hr => first | (go_simp; done) | (go_simp; rfl)); intro gb221 hg w13 hbox hb; have n0_ := Aside0.mk (blk_below (g := gb220) (o := .cells #[.int .i64 a0_0, .slice A0_1 l0_1.length c0_1] 24 (0, 0)) by9 hb); have n1_ := Aside0.mk (below_step by60 hb); have n2_ := Aside0.mk (hbox); have n3_ := Aside0.mk ((by24 : w.heap.size ≤ gb221)); have n4_ := Aside0.mk ((by24 : w.heap.size ≤ gb221)); have n5_ := Aside0.mk ((by15 : gb220 ≠ gb221)); have n6_ := Aside0.mk ((by16 : gb221 ≠ gb220)); clear BK220; clear HB; have BK220 := n0_; have HB := n1_; have BK221 := n2_; have GW221 := n3_; have GE221 := n4_; have NB220_221 := n5_; have NB221_220 := n6_; clear n0_ n1_ n2_ n3_ n4_ n5_ n6_; clear hb hbox hg; have hnb14 := NB220_221.out; have hnc14 := NB221_220.out; have hcz15_0 : w13.cell? ⟨gb220, 0, none⟩ = some (.int .i64 a0_0) := (blk_cell BK220.out 0).trans rfl; have hcz15_1 : w13.cell? ⟨gb220, 1, none⟩ = some (.slice A0_1 l0_1.length c0_1) := (blk_cell BK220.out 1).trans rfl; have hfz15_0 := blk_frozen BK220.out 0; have hfz15_1 := blk_frozen BK220.out 1) | ((with_reducible refine gate_callee (f := 15) rfl ?_); refine goesL_ (some 12) rfl rfl Try.func15 by8 rfl #[.agg #[.int .i64 a0_0, .slice A0_1 l0_1.length c0_1], .int .i64 1048576] rfl by1 ?_; (with_reducible refine (laws_szImage.calls k a0_0 _ _ l0_1 1048576 t222 _ ?side1 ?side2 A3.out).mono ?_); (case side1 => repeat (first | exact (Kd.C_below HR0_1.out HB.out) | (with_reducible refine Kd.C_alloc ?_ _) | (with_reducible refine Kd.C_drewN ?_ _) | (with_reducible refine Kd.C_drew ?_))); (case side2 => exact HC0_1.out); rintro e w16 ⟨rfl, hb⟩; refine ⟨_, rfl, ?_⟩; have n0_ := Aside0.mk (blk_below (g := gb220) (o := .cells #[.int .i64 a0_0, .slice A0_1 l0_1.length c0_1] 24 (0, 0)) by9 hb); have n1_ := Aside0.mk (blk_below (g := gb221) (o := .cells #[.int .i64 a1_0, .slice A1_1 l1_1.length c1_1] 24 (0, 0)) by10 hb); have n2_ := Aside0.mk (below_step by3 hb); clear BK220; clear BK221; clear HB; have BK220 := n0_; have BK221 := n1_; have HB := n2_; clear n0_ n1_ n2_; (try clear hb); (try clear hb2); (try clear hk); (try clear hi); have hcz17_0 : w16.cell? ⟨gb221, 0, none⟩ = some (.int .i64 a1_0) := (blk_cell BK221.out 0).trans rfl; have hcz17_1 : w16.cell? ⟨gb221, 1, none⟩ = some (.slice A1_1 l1_1.length c1_1) := (blk_cell BK221.out 1).trans rfl; have hfz17_0 := blk_frozen BK221.out 0; have hfz17_1 := blk_frozen BK221.out 1) | ((with_reducible refine gate_callee (f := 15) rfl ?_); refine goesL_ (some 17) rfl rfl Try.func15 by8 rfl #[.agg #[.int .i64 a1_0, .slice A1_1 l1_1.length c1_1], .int .i64 t222] rfl by1 ?_; (with_reducible refine (laws_szImage.calls k a1_0 _ _ l1_1 t222 t223 _ ?side1 ?side2 A10.out).mono ?_); (case side1 => repeat (first | exact (Kd.C_below HR1_1.out HB.out) | (with_reducible refine Kd.C_alloc ?_ _) | (with_reducible refine Kd.C_drewN ?_ _) | (with_reducible refine Kd.C_drew ?_))); (case side2 => exact HC1_1.out); rintro e w18 ⟨rfl, hb⟩; refine ⟨_, rfl, ?_⟩; have n0_ := Aside0.mk (blk_below (g := gb220) (o := .cells #[.int .i64 a0_0, .slice A0_1 l0_1.length c0_1] 24 (0, 0)) by9 hb); have n1_ := Aside0.mk (blk_below (g := gb221) (o := .cells #[.int .i64 a1_0, .slice A1_1 l1_1.length c1_1] 24 (0, 0)) by10 hb); have n2_ := Aside0.mk (below_step by3 hb); clear BK220; clear BK221; clear HB; have BK220 := n0_; have BK221 := n1_; have HB := n2_; clear n0_ n1_ n2_; (try clear hb); (try clear hb2); (try clear hk); (try clear hi)))
      go_ret
      exact ⟨by first | rfl | (simp [errW_none, errW_some] <;> rfl) | (simp [*, errW_none, errW_some] <;> rfl), by repeat (first | (with_reducible first | exact HB.out | apply below_alloc | apply pw_below_drewN | apply below_drew1 | refine below_set ?_ GE220.out | refine below_set ?_ GE221.out) | exact HB.out)⟩
    · rw [if_neg c11] at H
      have c11b0 : decide (t223 < 0) = false := decide_eq_false c11
      clear c11
      replace H := Option.bind_eq_some_iff.mp H
      obtain ⟨⟨t224, t225⟩, A190, H⟩ := H
      replace H : ((laws_toImage.f k a1_0 l1_1).bind fun bt228 => ((spec_SameImage.f k t224 t225 bt228.1 bt228.2).bind fun t232 => ((laws_toImage.f k a0_0 l0_1).bind fun bt233 => ((laws_toImage.f k a1_0 l1_1).bind fun bt238 => ((impl_SameImage.f k bt233.1 bt233.2 bt238.1 bt238.2).bind fun t243 => (if (t243 != t232) = true then (some false) else ((laws_toImage.f k a0_0 l0_1).bind fun bt244 => ((laws_eqImage.f k bt233.1 bt233.2 bt244.1 bt244.2).bind fun t248 => (if t248 = true then ((laws_toImage.f k a1_0 l1_1).bind fun bt249 => ((laws_eqImage.f k bt238.1 bt238.2 bt249.1 bt249.2).bind fun t253 => (if t253 = true then (some true) else (some false)))) else (some false)))))))))) = some r := H
      have A19 := Aside0.mk A190
      clear A190
      replace H := Option.bind_eq_some_iff.mp H
      obtain ⟨⟨t228, t229⟩, A200, H⟩ := H
      replace H : ((spec_SameImage.f k t224 t225 t228 t229).bind fun t232 => ((laws_toImage.f k a0_0 l0_1).bind fun bt233 => ((laws_toImage.f k a1_0 l1_1).bind fun bt238 => ((impl_SameImage.f k bt233.1 bt233.2 bt238.1 bt238.2).bind fun t243 => (if (t243 != t232) = true then (some false) else ((laws_toImage.f k a0_0 l0_1).bind fun bt244 => ((laws_eqImage.f k bt233.1 bt233.2 bt244.1 bt244.2).bind fun t248 => (if t248 = true then ((laws_toImage.f k a1_0 l1_1).bind fun bt249 => ((laws_eqImage.f k bt238.1 bt238.2 bt249.1 bt249.2).bind fun t253 => (if t253 = true then (some true) else (some false)))) else (some false))))))))) = some r := H
      have A20 := Aside0.mk A200
      clear A200
      replace H := Option.bind_eq_some_iff.mp H
      obtain ⟨t232, A210, H⟩ := H
      replace H : ((laws_toImage.f k a0_0 l0_1).bind fun bt233 => ((laws_toImage.f k a1_0 l1_1).bind fun bt238 => ((impl_SameImage.f k bt233.1 bt233.2 bt238.1 bt238.2).bind fun t243 => (if (t243 != t232) = true then (some false) else ((laws_toImage.f k a0_0 l0_1).bind fun bt244 => ((laws_eqImage.f k bt233.1 bt233.2 bt244.1 bt244.2).bind fun t248 => (if t248 = true then ((laws_toImage.f k a1_0 l1_1).bind fun bt249 => ((laws_eqImage.f k bt238.1 bt238.2 bt249.1 bt249.2).bind fun t253 => (if t253 = true then (some true) else (some false)))) else (some false)))))))) = some r := H
      have A21 := Aside0.mk A210
      clear A210
      replace H := Option.bind_eq_some_iff.mp H
      obtain ⟨⟨t233, t234⟩, A220, H⟩ := H
      replace H : ((laws_toImage.f k a1_0 l1_1).bind fun bt238 => ((impl_SameImage.f k t233 t234 bt238.1 bt238.2).bind fun t243 => (if (t243 != t232) = true then (some false) else ((laws_toImage.f k a0_0 l0_1).bind fun bt244 => ((laws_eqImage.f k t233 t234 bt244.1 bt244.2).bind fun t248 => (if t248 = true then ((laws_toImage.f k a1_0 l1_1).bind fun bt249 => ((laws_eqImage.f k bt238.1 bt238.2 bt249.1 bt249.2).bind fun t253 => (if t253 = true then (some true) else (some false)))) else (some false))))))) = some r := H
      have A22 := Aside0.mk A220
      clear A220
      replace H := Option.bind_eq_some_iff.mp H
      obtain ⟨⟨t238, t239⟩, A230, H⟩ := H
      replace H : ((impl_SameImage.f k t233 t234 t238 t239).bind fun t243 => (if (t243 != t232) = true then (some false) else ((laws_toImage.f k a0_0 l0_1).bind fun bt244 => ((laws_eqImage.f k t233 t234 bt244.1 bt244.2).bind fun t248 => (if t248 = true then ((laws_toImage.f k a1_0 l1_1).bind fun bt249 => ((laws_eqImage.f k t238 t239 bt249.1 bt249.2).bind fun t253 => (if t253 = true then (some true) else (some false)))) else (some false)))))) = some r := H
      have A23 := Aside0.mk A230
      clear A230
      replace H := Option.bind_eq_some_iff.mp H
      obtain ⟨t243, A240, H⟩ := H
      replace H : (if (t243 != t232) = true then (some false) else ((laws_toImage.f k a0_0 l0_1).bind fun bt244 => ((laws_eqImage.f k t233 t234 bt244.1 bt244.2).bind fun t248 => (if t248 = true then ((laws_toImage.f k a1_0 l1_1).bind fun bt249 => ((laws_eqImage.f k t238 t239 bt249.1 bt249.2).bind fun t253 => (if t253 = true then (some true) else (some false)))) else (some false))))) = some r := H
      have A24 := Aside0.mk A240
      clear A240
      by_cases c25 : (t243 != t232) = true
      · rw [if_pos c25] at H
        have c25b0 : (t243 != t232) = true := c25
        (try (have c25b1 : decide (t243 = t232) = false := by simpa using c25))
        (try (have c25b2 : (t243 == t232) = false := by simpa using c25))
        (try (have c25b3 : ¬ (t243 = t232) := by simpa using c25))
        clear c25
        obtain rfl := Option.some.inj H
        go_enter Try.func3, Try.ntmps3
        try go_wp2_with (first | ((with_reducible refine gate_dst (N := 2) rfl ?_); refine box_event ?hg (N := 2) ?hd (cs := #[.int .i64 a0_0, .slice A0_1 l0_1.length c0_1]) (t := 24) ?hr ?_; (case hd => rfl); (case hg => rfl); (case hr => first | (go_simp; done) | (go_simp; rfl)); intro gb220 hg w26 hbox hb; have n0_ := Aside0.mk (below_step by2 hb); have n1_ := Aside0.mk (hbox); have n2_ := Aside0.mk ((by0 : w.heap.size ≤ gb220)); have n3_ := Aside0.mk ((by0 : w.heap.size ≤ gb220)); clear HB; have HB := n0_; have BK220 := n1_; have GW220 := n2_; have GE220 := n3_; clear n0_ n1_ n2_ n3_; clear hb hbox hg) | ((with_reducible refine gate_dst (N := 3) rfl ?_); refine box_event ?hg (N := 3) ?hd (cs := #[.int .i64 a1_0, .slice A1_1 l1_1.length c1_1]) (t := 24) ?hr ?_; (case hd => rfl); (case hg => rfl); (case hr => first | (go_simp; done) | (go_simp; rfl)); intro gb221 hg w27 hbox hb; have n0_ := Aside0.mk (blk_below (g := gb220) (o := .cells #[.int .i64 a0_0, .slice A0_1 l0_1.length c0_1] 24 (0, 0)) by9 hb); have n1_ := Aside0.mk (below_step by60 hb); have n2_ := Aside0.mk (hbox); have n3_ := Aside0.mk ((by24 : w.heap.size ≤ gb221)); have n4_ := Aside0.mk ((by24 : w.heap.size ≤ gb221)); have n5_ := Aside0.mk ((by15 : gb220 ≠ gb221)); have n6_ := Aside0.mk ((by16 : gb221 ≠ gb220)); clear BK220; clear HB; have BK220 := n0_; have HB := n1_; have BK221 := n2_; have GW221 := n3_; have GE221 := n4_; have NB220_221 := n5_; have NB221_220 := n6_; clear n0_ n1_ n2_ n3_ n4_ n5_ n6_; clear hb hbox hg; have hnb28 := NB220_221.out; have hnc28 := NB221_220.out; have hcz29_0 : w27.cell? ⟨gb220, 0, none⟩ = some (.int .i64 a0_0) := (blk_cell BK220.out 0).trans rfl; have hcz29_1 : w27.cell? ⟨gb220, 1, none⟩ = some (.slice A0_1 l0_1.length c0_1) := (blk_cell BK220.out 1).trans rfl; have hfz29_0 := blk_frozen BK220.out 0; have hfz29_1 := blk_frozen BK220.out 1) | ((with_reducible refine gate_callee (f := 15) rfl ?_); refine goesL_ (some 12) rfl rfl Try.func15 by8 rfl #[.agg #[.int .i64 a0_0, .slice A0_1 l0_1.length c0_1], .int .i64 1048576] rfl by1 ?_; (with_reducible refine (laws_szImage.calls k a0_0 _ _ l0_1 1048576 t222 _ ?side1 ?side2 A3.out).mono ?_); (case side1 => repeat (first | exact (Kd.C_below HR0_1.out HB.out) | (with_reducible refine Kd.C_alloc ?_ _) | (with_reducible refine Kd.C_drewN ?_ _) | (with_reducible refine Kd.C_drew ?_))); (case side2 => exact HC0_1.out); rintro e w30 ⟨rfl, hb⟩; refine ⟨_, rfl, ?_⟩; have n0_ := Aside0.mk (blk_below (g := gb220) (o := .cells #[.int .i64 a0_0, .slice A0_1 l0_1.length c0_1] 24 (0, 0)) by9 hb); have n1_ := Aside0.mk (blk_below (g := gb221) (o := .cells #[.int .i64 a1_0, .slice A1_1 l1_1.length c1_1] 24 (0, 0)) by10 hb); have n2_ := Aside0.mk (below_step by3 hb); clear BK220; clear BK221; clear HB; have BK220 := n0_; have BK221 := n1_; have HB := n2_; clear n0_ n1_ n2_; (try clear hb); (try clear hb2); (try clear hk); (try clear hi); have hcz31_0 : w30.cell? ⟨gb221, 0, none⟩ = some (.int .i64 a1_0) := (blk_cell BK221.out 0).trans rfl; have hcz31_1 : w30.cell? ⟨gb221, 1, none⟩ = some (.slice A1_1 l1_1.length c1_1) := (blk_cell BK221.out 1).trans rfl; have hfz31_0 := blk_frozen BK221.out 0; have hfz31_1 := blk_frozen BK221.out 1) | ((with_reducible refine gate_callee (f := 15) rfl ?_); refine goesL_ (some 17) rfl rfl Try.func15 by8 rfl #[.agg #[.int .i64 a1_0, .slice A1_1 l1_1.length c1_1], .int .i64 t222] rfl by1 ?_; (with_reducible refine (laws_szImage.calls k a1_0 _ _ l1_1 t222 t223 _ ?side1 ?side2 A10.out).mono ?_); (case side1 => repeat (first | exact (Kd.C_below HR1_1.out HB.out) | (with_reducible refine Kd.C_alloc ?_ _) | (with_reducible refine Kd.C_drewN ?_ _) | (with_reducible refine Kd.C_drew ?_))); (case side2 => exact HC1_1.out); rintro e w32 ⟨rfl, hb⟩; refine ⟨_, rfl, ?_⟩; have n0_ := Aside0.mk (blk_below (g := gb220) (o := .cells #[.int .i64 a0_0, .slice A0_1 l0_1.length c0_1] 24 (0, 0)) by9 hb); have n1_ := Aside0.mk (blk_below (g := gb221) (o := .cells #[.int .i64 a1_0, .slice A1_1 l1_1.length c1_1] 24 (0, 0)) by10 hb); have n2_ := Aside0.mk (below_step by3 hb); clear BK220; clear BK221; clear HB; have BK220 := n0_; have BK221 := n1_; have HB := n2_; clear n0_ n1_ n2_; (try clear hb); (try clear hb2); (try clear hk); (try clear hi)))
        have n0_ := Aside0.mk (blk_drew BK220.out)
        have n1_ := Aside0.mk (blk_drew BK221.out)
        have n2_ := Aside0.mk (below_drew1 HB.out)
        clear BK220
        clear BK221
        clear HB
        have BK220 := n0_
        have BK221 := n1_
        have HB := n2_
        clear n0_ n1_ n2_
        refine start_ (n := 6) (S := fun w' => w'.cell? ⟨gb220, 0, none⟩ = some (.int .i64 a0_0) ∧ w'.cell? ⟨gb220, 1, none⟩ = some (.slice A0_1 l0_1.length c0_1) ∧ w'.cell? ⟨gb221, 0, none⟩ = some (.int .i64 a1_0) ∧ w'.cell? ⟨gb221, 1, none⟩ = some (.slice A1_1 l1_1.length c1_1)) (ds := []) #[false, false, false, false, false, false] by8 rfl rfl ⟨(blk_cell BK220.out 0).trans rfl, (blk_cell BK220.out 1).trans rfl, (blk_cell BK221.out 0).trans rfl, (blk_cell BK221.out 1).trans rfl⟩ (fun hHeld => ?_)
        generalize w32.drew = w33 at BK220 BK221 HB hHeld ⊢
        refine take_ (i := 0) (N := some 20) (v := ?_) (a' := ?_) #[true, false, false, false, false, false] rfl rfl by8 (fun _ _ _ h => h) (Or.inl ⟨by rfl, ?_⟩) hHeld ?_ ?_
        rotate_left
        · rintro w' ⟨s0, s1, s2, s3⟩
          go_simp
          with_reducible rfl
        rotate_left
        · simp only [Act.put, List.setIfInBounds_toArray, List.set_cons_zero, List.set_cons_succ, i64_w, i32_w]
          rfl
        refine take_ (i := 2) (N := some 22) (v := ?_) (a' := ?_) #[true, false, true, false, false, false] rfl rfl by8 (fun _ _ _ h => h) (Or.inl ⟨by rfl, ?_⟩) hHeld ?_ ?_
        rotate_left
        · rintro w' ⟨s0, s1, s2, s3⟩
          go_simp
          with_reducible rfl
        rotate_left
        · simp only [Act.put, List.setIfInBounds_toArray, List.set_cons_zero, List.set_cons_succ, i64_w, i32_w]
          rfl
        refine one_ (i := 1) (N := some 21) #[true, true, true, false, false, false] rfl rfl by8 (by decide) (fun K hK => ?_)
        refine goes_ Try.func17 by8 rfl #[.agg #[.int .i64 a0_0, .slice A0_1 l0_1.length c0_1]] (by rfl) rfl rfl by1 ?_
        with_reducible refine (laws_toImage.calls k a0_0 _ _ l0_1 t224 t225 _ ?side1 ?side2 A19.out).mono ?_
        (case side1 => repeat (first | exact (Kd.C_below HR0_1.out HB.out) | (with_reducible refine Kd.C_alloc ?_ _) | (with_reducible refine Kd.C_drewN ?_ _) | (with_reducible refine Kd.C_drew ?_)))
        (case side2 => exact HC0_1.out)
        rintro e w34 ⟨v226, rfl, ho0, hb⟩
        refine ⟨_, rfl, ?_⟩
        have n0_ := Aside0.mk (Kd.R_lower ho0 (below_size by3))
        have n1_ := Aside0.mk (blk_below (g := gb220) (o := .cells #[.int .i64 a0_0, .slice A0_1 l0_1.length c0_1] 24 (0, 0)) by9 hb)
        have n2_ := Aside0.mk (blk_below (g := gb221) (o := .cells #[.int .i64 a1_0, .slice A1_1 l1_1.length c1_1] 24 (0, 0)) by10 hb)
        have n3_ := Aside0.mk (below_step by3 hb)
        clear BK220
        clear BK221
        clear HB
        have HO227 := n0_
        have BK220 := n1_
        have BK221 := n2_
        have HB := n3_
        clear n0_ n1_ n2_ n3_
        (try clear hb)
        (try clear hb2)
        (try clear hk)
        (try clear hi)
        (try clear ho0)
        refine hK.out _ _ ⟨(blk_cell BK220.out 0).trans rfl, (blk_cell BK220.out 1).trans rfl, (blk_cell BK221.out 0).trans rfl, (blk_cell BK221.out 1).trans rfl⟩ (fun hHeld => ?_)
        clear hK K
        refine norm_ (a' := ?_) ?_ ?_
        rotate_left
        · show Act.put _ (some 21) _ = _
          simp only [Act.put, List.setIfInBounds_toArray, List.set_cons_zero, List.set_cons_succ, i64_w, i32_w]
          rfl
        refine one_ (i := 3) (N := some 23) #[true, true, true, true, false, false] rfl rfl by8 (by decide) (fun K hK => ?_)
        refine goes_ Try.func17 by8 rfl #[.agg #[.int .i64 a1_0, .slice A1_1 l1_1.length c1_1]] (by rfl) rfl rfl by1 ?_
        with_reducible refine (laws_toImage.calls k a1_0 _ _ l1_1 t228 t229 _ ?side1 ?side2 A20.out).mono ?_
        (case side1 => repeat (first | exact (Kd.C_below HR1_1.out HB.out) | (with_reducible refine Kd.C_alloc ?_ _) | (with_reducible refine Kd.C_drewN ?_ _) | (with_reducible refine Kd.C_drew ?_)))
        (case side2 => exact HC1_1.out)
        rintro e w35 ⟨v230, rfl, ho0, hb⟩
        refine ⟨_, rfl, ?_⟩
        have n0_ := Aside0.mk (Kd.R_elder' by12 (Kd.R_base ho0) hb)
        have n1_ := Aside0.mk (Kd.R_lower (Kd.R_new' ho0 (Kd.R_lt by12)) (below_size by3))
        have n2_ := Aside0.mk (blk_below (g := gb220) (o := .cells #[.int .i64 a0_0, .slice A0_1 l0_1.length c0_1] 24 (0, 0)) by9 hb)
        have n3_ := Aside0.mk (blk_below (g := gb221) (o := .cells #[.int .i64 a1_0, .slice A1_1 l1_1.length c1_1] 24 (0, 0)) by10 hb)
        have n4_ := Aside0.mk (below_step by3 hb)
        clear HO227
        clear BK220
        clear BK221
        clear HB
        have HO227 := n0_
        have HO231 := n1_
        have BK220 := n2_
        have BK221 := n3_
        have HB := n4_
        clear n0_ n1_ n2_ n3_ n4_
        (try clear hb)
        (try clear hb2)
        (try clear hk)
        (try clear hi)
        (try clear ho0)
        obtain ⟨Ao36, co36, eo36⟩ := Kd.R_slice HO227.out
        (first | subst eo36 | (injection eo36 with f1_ f2_ f3_; have f4_ := f1_.symm; have f5_ := f3_.symm; clear f1_ f2_ f3_; subst f4_; subst f5_))
        obtain ⟨Ao37, co37, eo37⟩ := Kd.R_slice HO231.out
        (first | subst eo37 | (injection eo37 with f1_ f2_ f3_; have f4_ := f1_.symm; have f5_ := f3_.symm; clear f1_ f2_ f3_; subst f4_; subst f5_))
        refine hK.out _ _ ⟨(blk_cell BK220.out 0).trans rfl, (blk_cell BK220.out 1).trans rfl, (blk_cell BK221.out 0).trans rfl, (blk_cell BK221.out 1).trans rfl⟩ (fun hHeld => ?_)
        clear hK K
        refine norm_ (a' := ?_) ?_ ?_
        rotate_left
        · show Act.put _ (some 23) _ = _
          simp only [Act.put, List.setIfInBounds_toArray, List.set_cons_zero, List.set_cons_succ, i64_w, i32_w]
          rfl
        refine one_ (i := 4) (N := some 24) #[true, true, true, true, true, false] rfl rfl by8 (by decide) (fun K hK => ?_)
        refine goes_ Try.func16 by8 rfl #[.agg #[.int .i64 t224, .slice Ao36 t225.length co36], .agg #[.int .i64 t228, .slice Ao37 t229.length co37]] (by rfl) rfl rfl by1 ?_
        with_reducible refine (spec_SameImage.calls k t224 _ _ t225 t228 _ _ t229 t232 _ ?side1 ?side2 ?side3 ?side4 A21.out).mono ?_
        (case side1 => repeat (first | exact (Kd.R_reads' HO227.out).2.2 | (with_reducible refine Kd.C_alloc ?_ _) | (with_reducible refine Kd.C_drewN ?_ _) | (with_reducible refine Kd.C_drew ?_)))
        (case side2 => exact (Kd.R_reads' HO227.out).2.1)
        (case side3 => repeat (first | exact (Kd.R_reads' HO231.out).2.2 | (with_reducible refine Kd.C_alloc ?_ _) | (with_reducible refine Kd.C_drewN ?_ _) | (with_reducible refine Kd.C_drew ?_)))
        (case side4 => exact (Kd.R_reads' HO231.out).2.1)
        rintro e w38 ⟨rfl, hb⟩
        refine ⟨_, rfl, ?_⟩
        have n0_ := Aside0.mk (Kd.R_below by12 hb)
        have n1_ := Aside0.mk (Kd.R_below by13 hb)
        have n2_ := Aside0.mk (blk_below (g := gb220) (o := .cells #[.int .i64 a0_0, .slice A0_1 l0_1.length c0_1] 24 (0, 0)) by9 hb)
        have n3_ := Aside0.mk (blk_below (g := gb221) (o := .cells #[.int .i64 a1_0, .slice A1_1 l1_1.length c1_1] 24 (0, 0)) by10 hb)
        have n4_ := Aside0.mk (below_step by3 hb)
        clear HO227
        clear HO231
        clear BK220
        clear BK221
        clear HB
        have HO227 := n0_
        have HO231 := n1_
        have BK220 := n2_
        have BK221 := n3_
        have HB := n4_
        clear n0_ n1_ n2_ n3_ n4_
        (try clear hb)
        (try clear hb2)
        (try clear hk)
        (try clear hi)
        refine hK.out _ _ ⟨(blk_cell BK220.out 0).trans rfl, (blk_cell BK220.out 1).trans rfl, (blk_cell BK221.out 0).trans rfl, (blk_cell BK221.out 1).trans rfl⟩ (fun hHeld => ?_)
        clear hK K
        refine norm_ (a' := ?_) ?_ ?_
        rotate_left
        · show Act.put _ (some 24) _ = _
          simp only [Act.put, List.setIfInBounds_toArray, List.set_cons_zero, List.set_cons_succ, i64_w, i32_w]
          rfl
        refine pure_ (i := 5) (N := some 6) (v := ?_) (a' := ?_) #[true, true, true, true, true, true] rfl rfl by8 (fun _ _ _ h => h) (Or.inl ⟨by rfl, ?_⟩) ?_ ?_
        rotate_left
        · intro w'
          go_simp
          with_reducible rfl
        rotate_left
        · simp only [Act.put, List.setIfInBounds_toArray, List.set_cons_zero, List.set_cons_succ, i64_w, i32_w]
          rfl
        refine done_ by8 ?_
        have hcz39_0 : w38.cell? ⟨gb220, 0, none⟩ = some (.int .i64 a0_0) := (blk_cell BK220.out 0).trans rfl
        have hcz39_1 : w38.cell? ⟨gb220, 1, none⟩ = some (.slice A0_1 l0_1.length c0_1) := (blk_cell BK220.out 1).trans rfl
        have hfz39_0 := blk_frozen BK220.out 0
        have hfz39_1 := blk_frozen BK220.out 1
        try go_wp2_with (first | ((with_reducible refine gate_callee (f := 17) rfl ?_); refine goesL_ (some 26) rfl rfl Try.func17 by8 rfl #[.agg #[.int .i64 a0_0, .slice A0_1 l0_1.length c0_1]] rfl by1 ?_; (with_reducible refine (laws_toImage.calls k a0_0 _ _ l0_1 t233 t234 _ ?side1 ?side2 A22.out).mono ?_); (case side1 => repeat (first | exact (Kd.C_below HR0_1.out HB.out) | (with_reducible refine Kd.C_alloc ?_ _) | (with_reducible refine Kd.C_drewN ?_ _) | (with_reducible refine Kd.C_drew ?_))); (case side2 => exact HC0_1.out); rintro e w40 ⟨v235, rfl, ho0, hb⟩; refine ⟨_, rfl, ?_⟩; have n0_ := Aside0.mk (Kd.R_elder' by12 (Kd.R_base ho0) hb); have n1_ := Aside0.mk (Kd.R_elder' by13 (Kd.R_base ho0) hb); have n2_ := Aside0.mk (Kd.R_lower (Kd.R_new' (Kd.R_new' ho0 (Kd.R_lt by12)) (Kd.R_lt by13)) (below_size by3)); have n3_ := Aside0.mk (blk_below (g := gb220) (o := .cells #[.int .i64 a0_0, .slice A0_1 l0_1.length c0_1] 24 (0, 0)) by9 hb); have n4_ := Aside0.mk (blk_below (g := gb221) (o := .cells #[.int .i64 a1_0, .slice A1_1 l1_1.length c1_1] 24 (0, 0)) by10 hb); have n5_ := Aside0.mk (below_step by3 hb); clear HO227; clear HO231; clear BK220; clear BK221; clear HB; have HO227 := n0_; have HO231 := n1_; have HO236 := n2_; have BK220 := n3_; have BK221 := n4_; have HB := n5_; clear n0_ n1_ n2_ n3_ n4_ n5_; (try clear hb); (try clear hb2); (try clear hk); (try clear hi); (try clear ho0)) | ((with_reducible refine gate_dst (N := 7) rfl ?_); refine box_event ?hg (N := 7) ?hd (cs := #[.int .i64 0, .slice none 0 0]) (t := 29) ?hr ?_; (case hd => rfl); (case hg => rfl); (case hr => first | (go_simp; done) | (go_simp; rfl)); intro gb237 hg w41 hbox hb; have n0_ := Aside0.mk (Kd.R_below by12 hb); have n1_ := Aside0.mk (Kd.R_below by13 hb); have n2_ := Aside0.mk (Kd.R_below by20 hb); have n3_ := Aside0.mk (blk_below (g := gb220) (o := .cells #[.int .i64 a0_0, .slice A0_1 l0_1.length c0_1] 24 (0, 0)) by9 hb); have n4_ := Aside0.mk (blk_below (g := gb221) (o := .cells #[.int .i64 a1_0, .slice A1_1 l1_1.length c1_1] 24 (0, 0)) by10 hb); have n5_ := Aside0.mk (below_step by3 hb); have n6_ := Aside0.mk (hbox); have n7_ := Aside0.mk ((by33 : w.heap.size ≤ gb237)); have n8_ := Aside0.mk ((by33 : w.heap.size ≤ gb237)); have n9_ := Aside0.mk ((by15 : gb220 ≠ gb237)); have n10_ := Aside0.mk ((by16 : gb237 ≠ gb220)); have n11_ := Aside0.mk ((by31 : gb221 ≠ gb237)); have n12_ := Aside0.mk ((by32 : gb237 ≠ gb221)); clear HO227; clear HO231; clear HO236; clear BK220; clear BK221; clear HB; have HO227 := n0_; have HO231 := n1_; have HO236 := n2_; have BK220 := n3_; have BK221 := n4_; have HB := n5_; have BK237 := n6_; have GW237 := n7_; have GE237 := n8_; have NB220_237 := n9_; have NB237_220 := n10_; have NB221_237 := n11_; have NB237_221 := n12_; clear n0_ n1_ n2_ n3_ n4_ n5_ n6_ n7_ n8_ n9_ n10_ n11_ n12_; clear hb hbox hg; have hnb42 := NB237_220.out; have hnc42 := NB220_237.out; have hnb43 := NB237_221.out; have hnc43 := NB221_237.out; have hcz44_0 : w41.cell? ⟨gb237, 0, none⟩ = some (.int .i64 0) := (blk_cell BK237.out 0).trans rfl; have hcz44_1 : w41.cell? ⟨gb237, 1, none⟩ = some (.slice none 0 0) := (blk_cell BK237.out 1).trans rfl; have hfz44_0 := blk_frozen BK237.out 0; have hfz44_1 := blk_frozen BK237.out 1; obtain ⟨Ao45, co45, eo45⟩ := Kd.R_slice HO236.out; subst eo45; have hcz46_0 : w41.cell? ⟨gb221, 0, none⟩ = some (.int .i64 a1_0) := (blk_cell BK221.out 0).trans rfl; have hcz46_1 : w41.cell? ⟨gb221, 1, none⟩ = some (.slice A1_1 l1_1.length c1_1) := (blk_cell BK221.out 1).trans rfl; have hfz46_0 := blk_frozen BK221.out 0; have hfz46_1 := blk_frozen BK221.out 1) | ((with_reducible refine gate_callee (f := 17) rfl ?_); refine goesL_ (some 28) rfl rfl Try.func17 by8 rfl #[.agg #[.int .i64 a1_0, .slice A1_1 l1_1.length c1_1]] rfl by1 ?_; (with_reducible refine (laws_toImage.calls k a1_0 _ _ l1_1 t238 t239 _ ?side1 ?side2 A23.out).mono ?_); (case side1 => exact Kd.C_below HR1_1.out by14); (case side2 => exact HC1_1.out); rintro e w47 ⟨v240, rfl, ho0, hb⟩; refine ⟨_, rfl, ?_⟩; have n0_ := Aside0.mk (Kd.R_elder' by87 (Kd.R_base ho0) hb); have n1_ := Aside0.mk (Kd.R_elder' by88 (Kd.R_base ho0) hb); have n2_ := Aside0.mk (Kd.R_elder' by89 (Kd.R_base ho0) hb); have n3_ := Aside0.mk (Kd.R_lower (Kd.R_new' (Kd.R_new' (Kd.R_new' ho0 (Kd.R_lt by87)) (Kd.R_lt by88)) (Kd.R_lt by89)) (below_size by14)); have n4_ := Aside0.mk (blk_below (g := gb220) (o := .cells #[.int .i64 a0_0, .slice A0_1 l0_1.length c0_1] 24 (0, 0)) by40 hb); have n5_ := Aside0.mk (blk_below (g := gb221) (o := .cells #[.int .i64 a1_0, .slice A1_1 l1_1.length c1_1] 24 (0, 0)) by41 hb); have n6_ := Aside0.mk (blk_below (g := gb237) (o := .cells #[.int .i64 t233, .slice Ao45 t234.length co45] 29 (0, 0)) by34 hb); have n7_ := Aside0.mk (below_step by14 hb); clear HO227; clear HO231; clear HO236; clear BK220; clear BK221; clear BK237; clear HB; have HO227 := n0_; have HO231 := n1_; have HO236 := n2_; have HO241 := n3_; have BK220 := n4_; have BK221 := n5_; have BK237 := n6_; have HB := n7_; clear n0_ n1_ n2_ n3_ n4_ n5_ n6_ n7_; (try clear hb); (try clear hb2); (try clear hk); (try clear hi); (try clear ho0)) | ((with_reducible refine gate_dst (N := 8) rfl ?_); refine box_event ?hg (N := 8) ?hd (cs := #[.int .i64 0, .slice none 0 0]) (t := 29) ?hr ?_; (case hd => rfl); (case hg => rfl); (case hr => first | (go_simp; done) | (go_simp; rfl)); intro gb242 hg w48 hbox hb; have n0_ := Aside0.mk (Kd.R_below by12 hb); have n1_ := Aside0.mk (Kd.R_below by13 hb); have n2_ := Aside0.mk (Kd.R_below by20 hb); have n3_ := Aside0.mk (Kd.R_below by28 hb); have n4_ := Aside0.mk (blk_below (g := gb220) (o := .cells #[.int .i64 a0_0, .slice A0_1 l0_1.length c0_1] 24 (0, 0)) by9 hb); have n5_ := Aside0.mk (blk_below (g := gb221) (o := .cells #[.int .i64 a1_0, .slice A1_1 l1_1.length c1_1] 24 (0, 0)) by10 hb); have n6_ := Aside0.mk (blk_below (g := gb237) (o := .cells #[.int .i64 t233, .slice Ao45 t234.length co45] 29 (0, 0)) by37 hb); have n7_ := Aside0.mk (below_step by14 hb); have n8_ := Aside0.mk (hbox); have n9_ := Aside0.mk ((by26 : w.heap.size ≤ gb242)); have n10_ := Aside0.mk ((by26 : w.heap.size ≤ gb242)); have n11_ := Aside0.mk ((by15 : gb220 ≠ gb242)); have n12_ := Aside0.mk ((by16 : gb242 ≠ gb220)); have n13_ := Aside0.mk ((by31 : gb221 ≠ gb242)); have n14_ := Aside0.mk ((by32 : gb242 ≠ gb221)); have n15_ := Aside0.mk ((by rw [hg]; exact Nat.ne_of_lt (blk_lt (g := gb237) (o := .cells #[.int .i64 t233, .slice Ao45 t234.length co45] 29 (0, 0)) by37) : gb237 ≠ gb242)); have n16_ := Aside0.mk ((by rw [hg]; exact Nat.ne_of_gt (blk_lt (g := gb237) (o := .cells #[.int .i64 t233, .slice Ao45 t234.length co45] 29 (0, 0)) by37) : gb242 ≠ gb237)); clear HO227; clear HO231; clear HO236; clear HO241; clear BK220; clear BK221; clear BK237; clear HB; have HO227 := n0_; have HO231 := n1_; have HO236 := n2_; have HO241 := n3_; have BK220 := n4_; have BK221 := n5_; have BK237 := n6_; have HB := n7_; have BK242 := n8_; have GW242 := n9_; have GE242 := n10_; have NB220_242 := n11_; have NB242_220 := n12_; have NB221_242 := n13_; have NB242_221 := n14_; have NB237_242 := n15_; have NB242_237 := n16_; clear n0_ n1_ n2_ n3_ n4_ n5_ n6_ n7_ n8_ n9_ n10_ n11_ n12_ n13_ n14_ n15_ n16_; clear hb hbox hg; have hnb49 := NB242_220.out; have hnc49 := NB220_242.out; have hnb50 := NB242_221.out; have hnc50 := NB221_242.out; have hnb51 := NB242_237.out; have hnc51 := NB237_242.out; have hcz52_0 : w48.cell? ⟨gb242, 0, none⟩ = some (.int .i64 0) := (blk_cell BK242.out 0).trans rfl; have hcz52_1 : w48.cell? ⟨gb242, 1, none⟩ = some (.slice none 0 0) := (blk_cell BK242.out 1).trans rfl; have hfz52_0 := blk_frozen BK242.out 0; have hfz52_1 := blk_frozen BK242.out 1; obtain ⟨Ao53, co53, eo53⟩ := Kd.R_slice HO241.out; subst eo53; have hcz54_0 : w48.cell? ⟨gb237, 0, none⟩ = some (.int .i64 t233) := (blk_cell BK237.out 0).trans rfl; have hcz54_1 : w48.cell? ⟨gb237, 1, none⟩ = some (.slice Ao45 t234.length co45) := (blk_cell BK237.out 1).trans rfl; have hfz54_0 := blk_frozen BK237.out 0; have hfz54_1 := blk_frozen BK237.out 1) | ((with_reducible refine gate_callee (f := 18) rfl ?_); refine goesL_ (some 31) rfl rfl Try.func18 by8 rfl #[.agg #[.int .i64 t233, .slice Ao45 t234.length co45], .agg #[.int .i64 t238, .slice Ao53 t239.length co53]] rfl by1 ?_; (with_reducible refine (impl_SameImage.calls k t233 _ _ t234 t238 _ _ t239 t243 _ ?side1 ?side2 ?side3 ?side4 A24.out).mono ?_); (case side1 => refine (Kd.R_reads' (e := 111) (base := w.heap.size) (ok := fun k_ => (((True ∧ some k_ ≠ (.slice Ao36 t225.length co36 : Value).ownBlock) ∧ some k_ ≠ (.slice Ao37 t229.length co37 : Value).ownBlock) ∧ some k_ ≠ (.slice Ao53 t239.length co53 : Value).ownBlock)) (n := t234.length) (c := co45) ?_).2.2; exact by90); (case side2 => exact (Kd.R_reads' HO236.out).2.1); (case side3 => refine (Kd.R_reads' (e := 111) (base := w.heap.size) (ok := fun k_ => (((True ∧ some k_ ≠ (.slice Ao36 t225.length co36 : Value).ownBlock) ∧ some k_ ≠ (.slice Ao37 t229.length co37 : Value).ownBlock) ∧ some k_ ≠ (.slice Ao45 t234.length co45 : Value).ownBlock)) (n := t239.length) (c := co53) ?_).2.2; exact by91); (case side4 => exact (Kd.R_reads' HO241.out).2.1); rintro e w55 ⟨rfl, hb⟩; refine ⟨_, rfl, ?_⟩; have n0_ := Aside0.mk (Kd.R_below (by (with_reducible repeat (first | apply Kd.R_alloc | apply Kd.R_drewN | apply Kd.R_drew)); exact (Kd.R_mono (Kd.R_far (p := ⟨gb242, 1, none⟩) (Kd.R_far (p := ⟨gb242, 0, none⟩) (Kd.R_types HO227.out BK242.out (by decide)) (fun _ hk => hk.2) (.int .i64 t238)) (fun _ hk => hk.2) (.slice Ao53 t239.length co53)) (fun _ h_ => h_.1))) hb); have n1_ := Aside0.mk (Kd.R_below (by (with_reducible repeat (first | apply Kd.R_alloc | apply Kd.R_drewN | apply Kd.R_drew)); exact (Kd.R_mono (Kd.R_far (p := ⟨gb242, 1, none⟩) (Kd.R_far (p := ⟨gb242, 0, none⟩) (Kd.R_types HO231.out BK242.out (by decide)) (fun _ hk => hk.2) (.int .i64 t238)) (fun _ hk => hk.2) (.slice Ao53 t239.length co53)) (fun _ h_ => h_.1))) hb); have n2_ := Aside0.mk (Kd.R_below by90 hb); have n3_ := Aside0.mk (Kd.R_below by91 hb); have n4_ := Aside0.mk (blk_below (g := gb220) (o := .cells #[.int .i64 a0_0, .slice A0_1 l0_1.length c0_1] 24 (0, 0)) by42 hb); have n5_ := Aside0.mk (blk_below (g := gb221) (o := .cells #[.int .i64 a1_0, .slice A1_1 l1_1.length c1_1] 24 (0, 0)) by43 hb); have n6_ := Aside0.mk (blk_below (g := gb237) (o := .cells #[.int .i64 t233, .slice Ao45 t234.length co45] 29 (0, 0)) by44 hb); have n7_ := Aside0.mk (blk_below (g := gb242) (o := .cells #[.int .i64 t238, .slice Ao53 t239.length co53] 29 (0, 0)) by35 hb); have n8_ := Aside0.mk (below_step by11 hb); clear HO227; clear HO231; clear HO236; clear HO241; clear BK220; clear BK221; clear BK237; clear BK242; clear HB; have HO227 := n0_; have HO231 := n1_; have HO236 := n2_; have HO241 := n3_; have BK220 := n4_; have BK221 := n5_; have BK237 := n6_; have BK242 := n7_; have HB := n8_; clear n0_ n1_ n2_ n3_ n4_ n5_ n6_ n7_ n8_; (try clear hb); (try clear hb2); (try clear hk); (try clear hi)))
        go_ret
        exact ⟨by first | rfl | (simp [errW_none, errW_some] <;> rfl) | (simp [*, errW_none, errW_some] <;> rfl), by repeat (first | (with_reducible first | exact HB.out | apply below_alloc | apply pw_below_drewN | apply below_drew1 | refine below_set ?_ GE220.out | refine below_set ?_ GE221.out | refine below_set ?_ GE237.out | refine below_set ?_ GE242.out) | exact HB.out)⟩
      · rw [if_neg c25] at H
        have c25b0 : (t243 != t232) = false := by simpa using c25
        (try (have c25b1 : decide (t243 = t232) = true := by simpa using c25))
        (try (have c25b2 : (t243 == t232) = true := by simpa using c25))
        clear c25
        replace H := Option.bind_eq_some_iff.mp H
        obtain ⟨⟨t244, t245⟩, A560, H⟩ := H
        replace H : ((laws_eqImage.f k t233 t234 t244 t245).bind fun t248 => (if t248 = true then ((laws_toImage.f k a1_0 l1_1).bind fun bt249 => ((laws_eqImage.f k t238 t239 bt249.1 bt249.2).bind fun t253 => (if t253 = true then (some true) else (some false)))) else (some false))) = some r := H
        have A56 := Aside0.mk A560
        clear A560
        replace H := Option.bind_eq_some_iff.mp H
        obtain ⟨t248, A570, H⟩ := H
        replace H : (if t248 = true then ((laws_toImage.f k a1_0 l1_1).bind fun bt249 => ((laws_eqImage.f k t238 t239 bt249.1 bt249.2).bind fun t253 => (if t253 = true then (some true) else (some false)))) else (some false)) = some r := H
        have A57 := Aside0.mk A570
        clear A570
        by_cases c58 : t248 = true
        · subst c58
          have H1 : ((laws_toImage.f k a1_0 l1_1).bind fun bt249 => ((laws_eqImage.f k t238 t239 bt249.1 bt249.2).bind fun t253 => (if t253 = true then (some true) else (some false)))) = some r := by rw [if_pos rfl] at H; exact H
          clear H
          have H := H1
          clear H1
          replace H := Option.bind_eq_some_iff.mp H
          obtain ⟨⟨t249, t250⟩, A590, H⟩ := H
          replace H : ((laws_eqImage.f k t238 t239 t249 t250).bind fun t253 => (if t253 = true then (some true) else (some false))) = some r := H
          have A59 := Aside0.mk A590
          clear A590
          replace H := Option.bind_eq_some_iff.mp H
          obtain ⟨t253, A600, H⟩ := H
          replace H : (if t253 = true then (some true) else (some false)) = some r := H
          have A60 := Aside0.mk A600
          clear A600
          by_cases c61 : t253 = true
          · subst c61
            have H1 : (some true) = some r := by rw [if_pos rfl] at H; exact H
            clear H
            have H := H1
            clear H1
            obtain rfl := Option.some.inj H
            go_enter Try.func3, Try.ntmps3
            try go_wp2_with (first | ((with_reducible refine gate_dst (N := 2) rfl ?_); refine box_event ?hg (N := 2) ?hd (cs := #[.int .i64 a0_0, .slice A0_1 l0_1.length c0_1]) (t := 24) ?hr ?_; (case hd => rfl); (case hg => rfl); (case hr => first | (go_simp; done) | (go_simp; rfl)); intro gb220 hg w62 hbox hb; have n0_ := Aside0.mk (below_step by2 hb); have n1_ := Aside0.mk (hbox); have n2_ := Aside0.mk ((by0 : w.heap.size ≤ gb220)); have n3_ := Aside0.mk ((by0 : w.heap.size ≤ gb220)); clear HB; have HB := n0_; have BK220 := n1_; have GW220 := n2_; have GE220 := n3_; clear n0_ n1_ n2_ n3_; clear hb hbox hg) | ((with_reducible refine gate_dst (N := 3) rfl ?_); refine box_event ?hg (N := 3) ?hd (cs := #[.int .i64 a1_0, .slice A1_1 l1_1.length c1_1]) (t := 24) ?hr ?_; (case hd => rfl); (case hg => rfl); (case hr => first | (go_simp; done) | (go_simp; rfl)); intro gb221 hg w63 hbox hb; have n0_ := Aside0.mk (blk_below (g := gb220) (o := .cells #[.int .i64 a0_0, .slice A0_1 l0_1.length c0_1] 24 (0, 0)) by9 hb); have n1_ := Aside0.mk (below_step by60 hb); have n2_ := Aside0.mk (hbox); have n3_ := Aside0.mk ((by24 : w.heap.size ≤ gb221)); have n4_ := Aside0.mk ((by24 : w.heap.size ≤ gb221)); have n5_ := Aside0.mk ((by15 : gb220 ≠ gb221)); have n6_ := Aside0.mk ((by16 : gb221 ≠ gb220)); clear BK220; clear HB; have BK220 := n0_; have HB := n1_; have BK221 := n2_; have GW221 := n3_; have GE221 := n4_; have NB220_221 := n5_; have NB221_220 := n6_; clear n0_ n1_ n2_ n3_ n4_ n5_ n6_; clear hb hbox hg; have hnb64 := NB220_221.out; have hnc64 := NB221_220.out; have hcz65_0 : w63.cell? ⟨gb220, 0, none⟩ = some (.int .i64 a0_0) := (blk_cell BK220.out 0).trans rfl; have hcz65_1 : w63.cell? ⟨gb220, 1, none⟩ = some (.slice A0_1 l0_1.length c0_1) := (blk_cell BK220.out 1).trans rfl; have hfz65_0 := blk_frozen BK220.out 0; have hfz65_1 := blk_frozen BK220.out 1) | ((with_reducible refine gate_callee (f := 15) rfl ?_); refine goesL_ (some 12) rfl rfl Try.func15 by8 rfl #[.agg #[.int .i64 a0_0, .slice A0_1 l0_1.length c0_1], .int .i64 1048576] rfl by1 ?_; (with_reducible refine (laws_szImage.calls k a0_0 _ _ l0_1 1048576 t222 _ ?side1 ?side2 A3.out).mono ?_); (case side1 => repeat (first | exact (Kd.C_below HR0_1.out HB.out) | (with_reducible refine Kd.C_alloc ?_ _) | (with_reducible refine Kd.C_drewN ?_ _) | (with_reducible refine Kd.C_drew ?_))); (case side2 => exact HC0_1.out); rintro e w66 ⟨rfl, hb⟩; refine ⟨_, rfl, ?_⟩; have n0_ := Aside0.mk (blk_below (g := gb220) (o := .cells #[.int .i64 a0_0, .slice A0_1 l0_1.length c0_1] 24 (0, 0)) by9 hb); have n1_ := Aside0.mk (blk_below (g := gb221) (o := .cells #[.int .i64 a1_0, .slice A1_1 l1_1.length c1_1] 24 (0, 0)) by10 hb); have n2_ := Aside0.mk (below_step by3 hb); clear BK220; clear BK221; clear HB; have BK220 := n0_; have BK221 := n1_; have HB := n2_; clear n0_ n1_ n2_; (try clear hb); (try clear hb2); (try clear hk); (try clear hi); have hcz67_0 : w66.cell? ⟨gb221, 0, none⟩ = some (.int .i64 a1_0) := (blk_cell BK221.out 0).trans rfl; have hcz67_1 : w66.cell? ⟨gb221, 1, none⟩ = some (.slice A1_1 l1_1.length c1_1) := (blk_cell BK221.out 1).trans rfl; have hfz67_0 := blk_frozen BK221.out 0; have hfz67_1 := blk_frozen BK221.out 1) | ((with_reducible refine gate_callee (f := 15) rfl ?_); refine goesL_ (some 17) rfl rfl Try.func15 by8 rfl #[.agg #[.int .i64 a1_0, .slice A1_1 l1_1.length c1_1], .int .i64 t222] rfl by1 ?_; (with_reducible refine (laws_szImage.calls k a1_0 _ _ l1_1 t222 t223 _ ?side1 ?side2 A10.out).mono ?_); (case side1 => repeat (first | exact (Kd.C_below HR1_1.out HB.out) | (with_reducible refine Kd.C_alloc ?_ _) | (with_reducible refine Kd.C_drewN ?_ _) | (with_reducible refine Kd.C_drew ?_))); (case side2 => exact HC1_1.out); rintro e w68 ⟨rfl, hb⟩; refine ⟨_, rfl, ?_⟩; have n0_ := Aside0.mk (blk_below (g := gb220) (o := .cells #[.int .i64 a0_0, .slice A0_1 l0_1.length c0_1] 24 (0, 0)) by9 hb); have n1_ := Aside0.mk (blk_below (g := gb221) (o := .cells #[.int .i64 a1_0, .slice A1_1 l1_1.length c1_1] 24 (0, 0)) by10 hb); have n2_ := Aside0.mk (below_step by3 hb); clear BK220; clear BK221; clear HB; have BK220 := n0_; have BK221 := n1_; have HB := n2_; clear n0_ n1_ n2_; (try clear hb); (try clear hb2); (try clear hk); (try clear hi)))
            have n0_ := Aside0.mk (blk_drew BK220.out)
            have n1_ := Aside0.mk (blk_drew BK221.out)
            have n2_ := Aside0.mk (below_drew1 HB.out)
            clear BK220
            clear BK221
            clear HB
            have BK220 := n0_
            have BK221 := n1_
            have HB := n2_
            clear n0_ n1_ n2_
            refine start_ (n := 6) (S := fun w' => w'.cell? ⟨gb220, 0, none⟩ = some (.int .i64 a0_0) ∧ w'.cell? ⟨gb220, 1, none⟩ = some (.slice A0_1 l0_1.length c0_1) ∧ w'.cell? ⟨gb221, 0, none⟩ = some (.int .i64 a1_0) ∧ w'.cell? ⟨gb221, 1, none⟩ = some (.slice A1_1 l1_1.length c1_1)) (ds := []) #[false, false, false, false, false, false] by8 rfl rfl ⟨(blk_cell BK220.out 0).trans rfl, (blk_cell BK220.out 1).trans rfl, (blk_cell BK221.out 0).trans rfl, (blk_cell BK221.out 1).trans rfl⟩ (fun hHeld => ?_)
            generalize w68.drew = w69 at BK220 BK221 HB hHeld ⊢
            refine take_ (i := 0) (N := some 20) (v := ?_) (a' := ?_) #[true, false, false, false, false, false] rfl rfl by8 (fun _ _ _ h => h) (Or.inl ⟨by rfl, ?_⟩) hHeld ?_ ?_
            rotate_left
            · rintro w' ⟨s0, s1, s2, s3⟩
              go_simp
              with_reducible rfl
            rotate_left
            · simp only [Act.put, List.setIfInBounds_toArray, List.set_cons_zero, List.set_cons_succ, i64_w, i32_w]
              rfl
            refine take_ (i := 2) (N := some 22) (v := ?_) (a' := ?_) #[true, false, true, false, false, false] rfl rfl by8 (fun _ _ _ h => h) (Or.inl ⟨by rfl, ?_⟩) hHeld ?_ ?_
            rotate_left
            · rintro w' ⟨s0, s1, s2, s3⟩
              go_simp
              with_reducible rfl
            rotate_left
            · simp only [Act.put, List.setIfInBounds_toArray, List.set_cons_zero, List.set_cons_succ, i64_w, i32_w]
              rfl
            refine one_ (i := 1) (N := some 21) #[true, true, true, false, false, false] rfl rfl by8 (by decide) (fun K hK => ?_)
            refine goes_ Try.func17 by8 rfl #[.agg #[.int .i64 a0_0, .slice A0_1 l0_1.length c0_1]] (by rfl) rfl rfl by1 ?_
            with_reducible refine (laws_toImage.calls k a0_0 _ _ l0_1 t224 t225 _ ?side1 ?side2 A19.out).mono ?_
            (case side1 => repeat (first | exact (Kd.C_below HR0_1.out HB.out) | (with_reducible refine Kd.C_alloc ?_ _) | (with_reducible refine Kd.C_drewN ?_ _) | (with_reducible refine Kd.C_drew ?_)))
            (case side2 => exact HC0_1.out)
            rintro e w70 ⟨v226, rfl, ho0, hb⟩
            refine ⟨_, rfl, ?_⟩
            have n0_ := Aside0.mk (Kd.R_lower ho0 (below_size by3))
            have n1_ := Aside0.mk (blk_below (g := gb220) (o := .cells #[.int .i64 a0_0, .slice A0_1 l0_1.length c0_1] 24 (0, 0)) by9 hb)
            have n2_ := Aside0.mk (blk_below (g := gb221) (o := .cells #[.int .i64 a1_0, .slice A1_1 l1_1.length c1_1] 24 (0, 0)) by10 hb)
            have n3_ := Aside0.mk (below_step by3 hb)
            clear BK220
            clear BK221
            clear HB
            have HO227 := n0_
            have BK220 := n1_
            have BK221 := n2_
            have HB := n3_
            clear n0_ n1_ n2_ n3_
            (try clear hb)
            (try clear hb2)
            (try clear hk)
            (try clear hi)
            (try clear ho0)
            refine hK.out _ _ ⟨(blk_cell BK220.out 0).trans rfl, (blk_cell BK220.out 1).trans rfl, (blk_cell BK221.out 0).trans rfl, (blk_cell BK221.out 1).trans rfl⟩ (fun hHeld => ?_)
            clear hK K
            refine norm_ (a' := ?_) ?_ ?_
            rotate_left
            · show Act.put _ (some 21) _ = _
              simp only [Act.put, List.setIfInBounds_toArray, List.set_cons_zero, List.set_cons_succ, i64_w, i32_w]
              rfl
            refine one_ (i := 3) (N := some 23) #[true, true, true, true, false, false] rfl rfl by8 (by decide) (fun K hK => ?_)
            refine goes_ Try.func17 by8 rfl #[.agg #[.int .i64 a1_0, .slice A1_1 l1_1.length c1_1]] (by rfl) rfl rfl by1 ?_
            with_reducible refine (laws_toImage.calls k a1_0 _ _ l1_1 t228 t229 _ ?side1 ?side2 A20.out).mono ?_
            (case side1 => repeat (first | exact (Kd.C_below HR1_1.out HB.out) | (with_reducible refine Kd.C_alloc ?_ _) | (with_reducible refine Kd.C_drewN ?_ _) | (with_reducible refine Kd.C_drew ?_)))
            (case side2 => exact HC1_1.out)
            rintro e w71 ⟨v230, rfl, ho0, hb⟩
            refine ⟨_, rfl, ?_⟩
            have n0_ := Aside0.mk (Kd.R_elder' by12 (Kd.R_base ho0) hb)
            have n1_ := Aside0.mk (Kd.R_lower (Kd.R_new' ho0 (Kd.R_lt by12)) (below_size by3))
            have n2_ := Aside0.mk (blk_below (g := gb220) (o := .cells #[.int .i64 a0_0, .slice A0_1 l0_1.length c0_1] 24 (0, 0)) by9 hb)
            have n3_ := Aside0.mk (blk_below (g := gb221) (o := .cells #[.int .i64 a1_0, .slice A1_1 l1_1.length c1_1] 24 (0, 0)) by10 hb)
            have n4_ := Aside0.mk (below_step by3 hb)
            clear HO227
            clear BK220
            clear BK221
            clear HB
            have HO227 := n0_
            have HO231 := n1_
            have BK220 := n2_
            have BK221 := n3_
            have HB := n4_
            clear n0_ n1_ n2_ n3_ n4_
            (try clear hb)
            (try clear hb2)
            (try clear hk)
            (try clear hi)
            (try clear ho0)
            obtain ⟨Ao72, co72, eo72⟩ := Kd.R_slice HO227.out
            (first | subst eo72 | (injection eo72 with f1_ f2_ f3_; have f4_ := f1_.symm; have f5_ := f3_.symm; clear f1_ f2_ f3_; subst f4_; subst f5_))
            obtain ⟨Ao73, co73, eo73⟩ := Kd.R_slice HO231.out
            (first | subst eo73 | (injection eo73 with f1_ f2_ f3_; have f4_ := f1_.symm; have f5_ := f3_.symm; clear f1_ f2_ f3_; subst f4_; subst f5_))
            refine hK.out _ _ ⟨(blk_cell BK220.out 0).trans rfl, (blk_cell BK220.out 1).trans rfl, (blk_cell BK221.out 0).trans rfl, (blk_cell BK221.out 1).trans rfl⟩ (fun hHeld => ?_)
            clear hK K
            refine norm_ (a' := ?_) ?_ ?_
            rotate_left
            · show Act.put _ (some 23) _ = _
              simp only [Act.put, List.setIfInBounds_toArray, List.set_cons_zero, List.set_cons_succ, i64_w, i32_w]
              rfl
            refine one_ (i := 4) (N := some 24) #[true, true, true, true, true, false] rfl rfl by8 (by decide) (fun K hK => ?_)
            refine goes_ Try.func16 by8 rfl #[.agg #[.int .i64 t224, .slice Ao72 t225.length co72], .agg #[.int .i64 t228, .slice Ao73 t229.length co73]] (by rfl) rfl rfl by1 ?_
            with_reducible refine (spec_SameImage.calls k t224 _ _ t225 t228 _ _ t229 t232 _ ?side1 ?side2 ?side3 ?side4 A21.out).mono ?_
            (case side1 => repeat (first | exact (Kd.R_reads' HO227.out).2.2 | (with_reducible refine Kd.C_alloc ?_ _) | (with_reducible refine Kd.C_drewN ?_ _) | (with_reducible refine Kd.C_drew ?_)))
            (case side2 => exact (Kd.R_reads' HO227.out).2.1)
            (case side3 => repeat (first | exact (Kd.R_reads' HO231.out).2.2 | (with_reducible refine Kd.C_alloc ?_ _) | (with_reducible refine Kd.C_drewN ?_ _) | (with_reducible refine Kd.C_drew ?_)))
            (case side4 => exact (Kd.R_reads' HO231.out).2.1)
            rintro e w74 ⟨rfl, hb⟩
            refine ⟨_, rfl, ?_⟩
            have n0_ := Aside0.mk (Kd.R_below by12 hb)
            have n1_ := Aside0.mk (Kd.R_below by13 hb)
            have n2_ := Aside0.mk (blk_below (g := gb220) (o := .cells #[.int .i64 a0_0, .slice A0_1 l0_1.length c0_1] 24 (0, 0)) by9 hb)
            have n3_ := Aside0.mk (blk_below (g := gb221) (o := .cells #[.int .i64 a1_0, .slice A1_1 l1_1.length c1_1] 24 (0, 0)) by10 hb)
            have n4_ := Aside0.mk (below_step by3 hb)
            clear HO227
            clear HO231
            clear BK220
            clear BK221
            clear HB
            have HO227 := n0_
            have HO231 := n1_
            have BK220 := n2_
            have BK221 := n3_
            have HB := n4_
            clear n0_ n1_ n2_ n3_ n4_
            (try clear hb)
            (try clear hb2)
            (try clear hk)
            (try clear hi)
            refine hK.out _ _ ⟨(blk_cell BK220.out 0).trans rfl, (blk_cell BK220.out 1).trans rfl, (blk_cell BK221.out 0).trans rfl, (blk_cell BK221.out 1).trans rfl⟩ (fun hHeld => ?_)
            clear hK K
            refine norm_ (a' := ?_) ?_ ?_
            rotate_left
            · show Act.put _ (some 24) _ = _
              simp only [Act.put, List.setIfInBounds_toArray, List.set_cons_zero, List.set_cons_succ, i64_w, i32_w]
              rfl
            refine pure_ (i := 5) (N := some 6) (v := ?_) (a' := ?_) #[true, true, true, true, true, true] rfl rfl by8 (fun _ _ _ h => h) (Or.inl ⟨by rfl, ?_⟩) ?_ ?_
            rotate_left
            · intro w'
              go_simp
              with_reducible rfl
            rotate_left
            · simp only [Act.put, List.setIfInBounds_toArray, List.set_cons_zero, List.set_cons_succ, i64_w, i32_w]
              rfl
            refine done_ by8 ?_
            have hcz75_0 : w74.cell? ⟨gb220, 0, none⟩ = some (.int .i64 a0_0) := (blk_cell BK220.out 0).trans rfl
            have hcz75_1 : w74.cell? ⟨gb220, 1, none⟩ = some (.slice A0_1 l0_1.length c0_1) := (blk_cell BK220.out 1).trans rfl
            have hfz75_0 := blk_frozen BK220.out 0
            have hfz75_1 := blk_frozen BK220.out 1
            try go_wp2_with (first | ((with_reducible refine gate_callee (f := 17) rfl ?_); refine goesL_ (some 26) rfl rfl Try.func17 by8 rfl #[.agg #[.int .i64 a0_0, .slice A0_1 l0_1.length c0_1]] rfl by1 ?_; (with_reducible refine (laws_toImage.calls k a0_0 _ _ l0_1 t233 t234 _ ?side1 ?side2 A22.out).mono ?_); (case side1 => repeat (first | exact (Kd.C_below HR0_1.out HB.out) | (with_reducible refine Kd.C_alloc ?_ _) | (with_reducible refine Kd.C_drewN ?_ _) | (with_reducible refine Kd.C_drew ?_))); (case side2 => exact HC0_1.out); rintro e w76 ⟨v235, rfl, ho0, hb⟩; refine ⟨_, rfl, ?_⟩; have n0_ := Aside0.mk (Kd.R_elder' by12 (Kd.R_base ho0) hb); have n1_ := Aside0.mk (Kd.R_elder' by13 (Kd.R_base ho0) hb); have n2_ := Aside0.mk (Kd.R_lower (Kd.R_new' (Kd.R_new' ho0 (Kd.R_lt by12)) (Kd.R_lt by13)) (below_size by3)); have n3_ := Aside0.mk (blk_below (g := gb220) (o := .cells #[.int .i64 a0_0, .slice A0_1 l0_1.length c0_1] 24 (0, 0)) by9 hb); have n4_ := Aside0.mk (blk_below (g := gb221) (o := .cells #[.int .i64 a1_0, .slice A1_1 l1_1.length c1_1] 24 (0, 0)) by10 hb); have n5_ := Aside0.mk (below_step by3 hb); clear HO227; clear HO231; clear BK220; clear BK221; clear HB; have HO227 := n0_; have HO231 := n1_; have HO236 := n2_; have BK220 := n3_; have BK221 := n4_; have HB := n5_; clear n0_ n1_ n2_ n3_ n4_ n5_; (try clear hb); (try clear hb2); (try clear hk); (try clear hi); (try clear ho0)) | ((with_reducible refine gate_dst (N := 7) rfl ?_); refine box_event ?hg (N := 7) ?hd (cs := #[.int .i64 0, .slice none 0 0]) (t := 29) ?hr ?_; (case hd => rfl); (case hg => rfl); (case hr => first | (go_simp; done) | (go_simp; rfl)); intro gb237 hg w77 hbox hb; have n0_ := Aside0.mk (Kd.R_below by12 hb); have n1_ := Aside0.mk (Kd.R_below by13 hb); have n2_ := Aside0.mk (Kd.R_below by20 hb); have n3_ := Aside0.mk (blk_below (g := gb220) (o := .cells #[.int .i64 a0_0, .slice A0_1 l0_1.length c0_1] 24 (0, 0)) by9 hb); have n4_ := Aside0.mk (blk_below (g := gb221) (o := .cells #[.int .i64 a1_0, .slice A1_1 l1_1.length c1_1] 24 (0, 0)) by10 hb); have n5_ := Aside0.mk (below_step by3 hb); have n6_ := Aside0.mk (hbox); have n7_ := Aside0.mk ((by33 : w.heap.size ≤ gb237)); have n8_ := Aside0.mk ((by33 : w.heap.size ≤ gb237)); have n9_ := Aside0.mk ((by15 : gb220 ≠ gb237)); have n10_ := Aside0.mk ((by16 : gb237 ≠ gb220)); have n11_ := Aside0.mk ((by31 : gb221 ≠ gb237)); have n12_ := Aside0.mk ((by32 : gb237 ≠ gb221)); clear HO227; clear HO231; clear HO236; clear BK220; clear BK221; clear HB; have HO227 := n0_; have HO231 := n1_; have HO236 := n2_; have BK220 := n3_; have BK221 := n4_; have HB := n5_; have BK237 := n6_; have GW237 := n7_; have GE237 := n8_; have NB220_237 := n9_; have NB237_220 := n10_; have NB221_237 := n11_; have NB237_221 := n12_; clear n0_ n1_ n2_ n3_ n4_ n5_ n6_ n7_ n8_ n9_ n10_ n11_ n12_; clear hb hbox hg; have hnb78 := NB237_220.out; have hnc78 := NB220_237.out; have hnb79 := NB237_221.out; have hnc79 := NB221_237.out; have hcz80_0 : w77.cell? ⟨gb237, 0, none⟩ = some (.int .i64 0) := (blk_cell BK237.out 0).trans rfl; have hcz80_1 : w77.cell? ⟨gb237, 1, none⟩ = some (.slice none 0 0) := (blk_cell BK237.out 1).trans rfl; have hfz80_0 := blk_frozen BK237.out 0; have hfz80_1 := blk_frozen BK237.out 1; obtain ⟨Ao81, co81, eo81⟩ := Kd.R_slice HO236.out; subst eo81; have hcz82_0 : w77.cell? ⟨gb221, 0, none⟩ = some (.int .i64 a1_0) := (blk_cell BK221.out 0).trans rfl; have hcz82_1 : w77.cell? ⟨gb221, 1, none⟩ = some (.slice A1_1 l1_1.length c1_1) := (blk_cell BK221.out 1).trans rfl; have hfz82_0 := blk_frozen BK221.out 0; have hfz82_1 := blk_frozen BK221.out 1) | ((with_reducible refine gate_callee (f := 17) rfl ?_); refine goesL_ (some 28) rfl rfl Try.func17 by8 rfl #[.agg #[.int .i64 a1_0, .slice A1_1 l1_1.length c1_1]] rfl by1 ?_; (with_reducible refine (laws_toImage.calls k a1_0 _ _ l1_1 t238 t239 _ ?side1 ?side2 A23.out).mono ?_); (case side1 => exact Kd.C_below HR1_1.out by14); (case side2 => exact HC1_1.out); rintro e w83 ⟨v240, rfl, ho0, hb⟩; refine ⟨_, rfl, ?_⟩; have n0_ := Aside0.mk (Kd.R_elder' by92 (Kd.R_base ho0) hb); have n1_ := Aside0.mk (Kd.R_elder' by93 (Kd.R_base ho0) hb); have n2_ := Aside0.mk (Kd.R_elder' by94 (Kd.R_base ho0) hb); have n3_ := Aside0.mk (Kd.R_lower (Kd.R_new' (Kd.R_new' (Kd.R_new' ho0 (Kd.R_lt by92)) (Kd.R_lt by93)) (Kd.R_lt by94)) (below_size by14)); have n4_ := Aside0.mk (blk_below (g := gb220) (o := .cells #[.int .i64 a0_0, .slice A0_1 l0_1.length c0_1] 24 (0, 0)) by40 hb); have n5_ := Aside0.mk (blk_below (g := gb221) (o := .cells #[.int .i64 a1_0, .slice A1_1 l1_1.length c1_1] 24 (0, 0)) by41 hb); have n6_ := Aside0.mk (blk_below (g := gb237) (o := .cells #[.int .i64 t233, .slice Ao81 t234.length co81] 29 (0, 0)) by34 hb); have n7_ := Aside0.mk (below_step by14 hb); clear HO227; clear HO231; clear HO236; clear BK220; clear BK221; clear BK237; clear HB; have HO227 := n0_; have HO231 := n1_; have HO236 := n2_; have HO241 := n3_; have BK220 := n4_; have BK221 := n5_; have BK237 := n6_; have HB := n7_; clear n0_ n1_ n2_ n3_ n4_ n5_ n6_ n7_; (try clear hb); (try clear hb2); (try clear hk); (try clear hi); (try clear ho0)) | ((with_reducible refine gate_dst (N := 8) rfl ?_); refine box_event ?hg (N := 8) ?hd (cs := #[.int .i64 0, .slice none 0 0]) (t := 29) ?hr ?_; (case hd => rfl); (case hg => rfl); (case hr => first | (go_simp; done) | (go_simp; rfl)); intro gb242 hg w84 hbox hb; have n0_ := Aside0.mk (Kd.R_below by12 hb); have n1_ := Aside0.mk (Kd.R_below by13 hb); have n2_ := Aside0.mk (Kd.R_below by20 hb); have n3_ := Aside0.mk (Kd.R_below by28 hb); have n4_ := Aside0.mk (blk_below (g := gb220) (o := .cells #[.int .i64 a0_0, .slice A0_1 l0_1.length c0_1] 24 (0, 0)) by9 hb); have n5_ := Aside0.mk (blk_below (g := gb221) (o := .cells #[.int .i64 a1_0, .slice A1_1 l1_1.length c1_1] 24 (0, 0)) by10 hb); have n6_ := Aside0.mk (blk_below (g := gb237) (o := .cells #[.int .i64 t233, .slice Ao81 t234.length co81] 29 (0, 0)) by37 hb); have n7_ := Aside0.mk (below_step by14 hb); have n8_ := Aside0.mk (hbox); have n9_ := Aside0.mk ((by26 : w.heap.size ≤ gb242)); have n10_ := Aside0.mk ((by26 : w.heap.size ≤ gb242)); have n11_ := Aside0.mk ((by15 : gb220 ≠ gb242)); have n12_ := Aside0.mk ((by16 : gb242 ≠ gb220)); have n13_ := Aside0.mk ((by31 : gb221 ≠ gb242)); have n14_ := Aside0.mk ((by32 : gb242 ≠ gb221)); have n15_ := Aside0.mk ((by rw [hg]; exact Nat.ne_of_lt (blk_lt (g := gb237) (o := .cells #[.int .i64 t233, .slice Ao81 t234.length co81] 29 (0, 0)) by37) : gb237 ≠ gb242)); have n16_ := Aside0.mk ((by rw [hg]; exact Nat.ne_of_gt (blk_lt (g := gb237) (o := .cells #[.int .i64 t233, .slice Ao81 t234.length co81] 29 (0, 0)) by37) : gb242 ≠ gb237)); clear HO227; clear HO231; clear HO236; clear HO241; clear BK220; clear BK221; clear BK237; clear HB; have HO227 := n0_; have HO231 := n1_; have HO236 := n2_; have HO241 := n3_; have BK220 := n4_; have BK221 := n5_; have BK237 := n6_; have HB := n7_; have BK242 := n8_; have GW242 := n9_; have GE242 := n10_; have NB220_242 := n11_; have NB242_220 := n12_; have NB221_242 := n13_; have NB242_221 := n14_; have NB237_242 := n15_; have NB242_237 := n16_; clear n0_ n1_ n2_ n3_ n4_ n5_ n6_ n7_ n8_ n9_ n10_ n11_ n12_ n13_ n14_ n15_ n16_; clear hb hbox hg; have hnb85 := NB242_220.out; have hnc85 := NB220_242.out; have hnb86 := NB242_221.out; have hnc86 := NB221_242.out; have hnb87 := NB242_237.out; have hnc87 := NB237_242.out; have hcz88_0 : w84.cell? ⟨gb242, 0, none⟩ = some (.int .i64 0) := (blk_cell BK242.out 0).trans rfl; have hcz88_1 : w84.cell? ⟨gb242, 1, none⟩ = some (.slice none 0 0) := (blk_cell BK242.out 1).trans rfl; have hfz88_0 := blk_frozen BK242.out 0; have hfz88_1 := blk_frozen BK242.out 1; obtain ⟨Ao89, co89, eo89⟩ := Kd.R_slice HO241.out; subst eo89; have hcz90_0 : w84.cell? ⟨gb237, 0, none⟩ = some (.int .i64 t233) := (blk_cell BK237.out 0).trans rfl; have hcz90_1 : w84.cell? ⟨gb237, 1, none⟩ = some (.slice Ao81 t234.length co81) := (blk_cell BK237.out 1).trans rfl; have hfz90_0 := blk_frozen BK237.out 0; have hfz90_1 := blk_frozen BK237.out 1) | ((with_reducible refine gate_callee (f := 18) rfl ?_); refine goesL_ (some 31) rfl rfl Try.func18 by8 rfl #[.agg #[.int .i64 t233, .slice Ao81 t234.length co81], .agg #[.int .i64 t238, .slice Ao89 t239.length co89]] rfl by1 ?_; (with_reducible refine (impl_SameImage.calls k t233 _ _ t234 t238 _ _ t239 t243 _ ?side1 ?side2 ?side3 ?side4 A24.out).mono ?_); (case side1 => refine (Kd.R_reads' (e := 111) (base := w.heap.size) (ok := fun k_ => (((True ∧ some k_ ≠ (.slice Ao72 t225.length co72 : Value).ownBlock) ∧ some k_ ≠ (.slice Ao73 t229.length co73 : Value).ownBlock) ∧ some k_ ≠ (.slice Ao89 t239.length co89 : Value).ownBlock)) (n := t234.length) (c := co81) ?_).2.2; exact by95); (case side2 => exact (Kd.R_reads' HO236.out).2.1); (case side3 => refine (Kd.R_reads' (e := 111) (base := w.heap.size) (ok := fun k_ => (((True ∧ some k_ ≠ (.slice Ao72 t225.length co72 : Value).ownBlock) ∧ some k_ ≠ (.slice Ao73 t229.length co73 : Value).ownBlock) ∧ some k_ ≠ (.slice Ao81 t234.length co81 : Value).ownBlock)) (n := t239.length) (c := co89) ?_).2.2; exact by96); (case side4 => exact (Kd.R_reads' HO241.out).2.1); rintro e w91 ⟨rfl, hb⟩; refine ⟨_, rfl, ?_⟩; have n0_ := Aside0.mk (Kd.R_below (by (with_reducible repeat (first | apply Kd.R_alloc | apply Kd.R_drewN | apply Kd.R_drew)); exact (Kd.R_mono (Kd.R_far (p := ⟨gb242, 1, none⟩) (Kd.R_far (p := ⟨gb242, 0, none⟩) (Kd.R_types HO227.out BK242.out (by decide)) (fun _ hk => hk.2) (.int .i64 t238)) (fun _ hk => hk.2) (.slice Ao89 t239.length co89)) (fun _ h_ => h_.1))) hb); have n1_ := Aside0.mk (Kd.R_below (by (with_reducible repeat (first | apply Kd.R_alloc | apply Kd.R_drewN | apply Kd.R_drew)); exact (Kd.R_mono (Kd.R_far (p := ⟨gb242, 1, none⟩) (Kd.R_far (p := ⟨gb242, 0, none⟩) (Kd.R_types HO231.out BK242.out (by decide)) (fun _ hk => hk.2) (.int .i64 t238)) (fun _ hk => hk.2) (.slice Ao89 t239.length co89)) (fun _ h_ => h_.1))) hb); have n2_ := Aside0.mk (Kd.R_below by95 hb); have n3_ := Aside0.mk (Kd.R_below by96 hb); have n4_ := Aside0.mk (blk_below (g := gb220) (o := .cells #[.int .i64 a0_0, .slice A0_1 l0_1.length c0_1] 24 (0, 0)) by42 hb); have n5_ := Aside0.mk (blk_below (g := gb221) (o := .cells #[.int .i64 a1_0, .slice A1_1 l1_1.length c1_1] 24 (0, 0)) by43 hb); have n6_ := Aside0.mk (blk_below (g := gb237) (o := .cells #[.int .i64 t233, .slice Ao81 t234.length co81] 29 (0, 0)) by44 hb); have n7_ := Aside0.mk (blk_below (g := gb242) (o := .cells #[.int .i64 t238, .slice Ao89 t239.length co89] 29 (0, 0)) by35 hb); have n8_ := Aside0.mk (below_step by11 hb); clear HO227; clear HO231; clear HO236; clear HO241; clear BK220; clear BK221; clear BK237; clear BK242; clear HB; have HO227 := n0_; have HO231 := n1_; have HO236 := n2_; have HO241 := n3_; have BK220 := n4_; have BK221 := n5_; have BK237 := n6_; have BK242 := n7_; have HB := n8_; clear n0_ n1_ n2_ n3_ n4_ n5_ n6_ n7_ n8_; (try clear hb); (try clear hb2); (try clear hk); (try clear hi)))
            have n0_ := Aside0.mk (Kd.R_drew HO227.out)
            have n1_ := Aside0.mk (Kd.R_drew HO231.out)
            have n2_ := Aside0.mk (Kd.R_drew HO236.out)
            have n3_ := Aside0.mk (Kd.R_drew HO241.out)
            have n4_ := Aside0.mk (blk_drew BK220.out)
            have n5_ := Aside0.mk (blk_drew BK221.out)
            have n6_ := Aside0.mk (blk_drew BK237.out)
            have n7_ := Aside0.mk (blk_drew BK242.out)
            have n8_ := Aside0.mk (below_drew1 HB.out)
            clear HO227
            clear HO231
            clear HO236
            clear HO241
            clear BK220
            clear BK221
            clear BK237
            clear BK242
            clear HB
            have HO227 := n0_
            have HO231 := n1_
            have HO236 := n2_
            have HO241 := n3_
            have BK220 := n4_
            have BK221 := n5_
            have BK237 := n6_
            have BK242 := n7_
            have HB := n8_
            clear n0_ n1_ n2_ n3_ n4_ n5_ n6_ n7_ n8_
            refine start_ (n := 5) (S := fun w' => w'.cell? ⟨gb237, 0, none⟩ = some (.int .i64 t233) ∧ w'.cell? ⟨gb237, 1, none⟩ = some (.slice Ao81 t234.length co81) ∧ w'.cell? ⟨gb220, 0, none⟩ = some (.int .i64 a0_0) ∧ w'.cell? ⟨gb220, 1, none⟩ = some (.slice A0_1 l0_1.length c0_1)) (ds := []) #[false, false, false, false, false] by8 rfl rfl ⟨(blk_cell BK237.out 0).trans rfl, (blk_cell BK237.out 1).trans rfl, (blk_cell BK220.out 0).trans rfl, (blk_cell BK220.out 1).trans rfl⟩ (fun hHeld => ?_)
            generalize w91.drew = w92 at HO227 HO231 HO236 HO241 BK220 BK221 BK237 BK242 HB hHeld ⊢
            refine take_ (i := 0) (N := some 35) (v := ?_) (a' := ?_) #[true, false, false, false, false] rfl rfl by8 (fun _ _ _ h => h) (Or.inl ⟨by rfl, ?_⟩) hHeld ?_ ?_
            rotate_left
            · rintro w' ⟨s0, s1, s2, s3⟩
              go_simp
              with_reducible rfl
            rotate_left
            · simp only [Act.put, List.setIfInBounds_toArray, List.set_cons_zero, List.set_cons_succ, i64_w, i32_w]
              rfl
            refine take_ (i := 1) (N := some 36) (v := ?_) (a' := ?_) #[true, true, false, false, false] rfl rfl by8 (fun _ _ _ h => h) (Or.inl ⟨by rfl, ?_⟩) hHeld ?_ ?_
            rotate_left
            · rintro w' ⟨s0, s1, s2, s3⟩
              go_simp
              with_reducible rfl
            rotate_left
            · simp only [Act.put, List.setIfInBounds_toArray, List.set_cons_zero, List.set_cons_succ, i64_w, i32_w]
              rfl
            refine one_ (i := 2) (N := some 37) #[true, true, true, false, false] rfl rfl by8 (by decide) (fun K hK => ?_)
            refine goes_ Try.func17 by8 rfl #[.agg #[.int .i64 a0_0, .slice A0_1 l0_1.length c0_1]] (by rfl) rfl rfl by1 ?_
            with_reducible refine (laws_toImage.calls k a0_0 _ _ l0_1 t244 t245 _ ?side1 ?side2 A56.out).mono ?_
            (case side1 => repeat (first | exact (Kd.C_below HR0_1.out HB.out) | (with_reducible refine Kd.C_alloc ?_ _) | (with_reducible refine Kd.C_drewN ?_ _) | (with_reducible refine Kd.C_drew ?_)))
            (case side2 => exact HC0_1.out)
            rintro e w93 ⟨v246, rfl, ho0, hb⟩
            refine ⟨_, rfl, ?_⟩
            have n0_ := Aside0.mk (Kd.R_elder' by12 (Kd.R_base ho0) hb)
            have n1_ := Aside0.mk (Kd.R_elder' by13 (Kd.R_base ho0) hb)
            have n2_ := Aside0.mk (Kd.R_elder' by20 (Kd.R_base ho0) hb)
            have n3_ := Aside0.mk (Kd.R_elder' by28 (Kd.R_base ho0) hb)
            have n4_ := Aside0.mk (Kd.R_lower (Kd.R_new' (Kd.R_new' (Kd.R_new' (Kd.R_new' ho0 (Kd.R_lt by12)) (Kd.R_lt by13)) (Kd.R_lt by20)) (Kd.R_lt by28)) (below_size by11))
            have n5_ := Aside0.mk (blk_below (g := gb220) (o := .cells #[.int .i64 a0_0, .slice A0_1 l0_1.length c0_1] 24 (0, 0)) by9 hb)
            have n6_ := Aside0.mk (blk_below (g := gb221) (o := .cells #[.int .i64 a1_0, .slice A1_1 l1_1.length c1_1] 24 (0, 0)) by10 hb)
            have n7_ := Aside0.mk (blk_below (g := gb237) (o := .cells #[.int .i64 t233, .slice Ao81 t234.length co81] 29 (0, 0)) by37 hb)
            have n8_ := Aside0.mk (blk_below (g := gb242) (o := .cells #[.int .i64 t238, .slice Ao89 t239.length co89] 29 (0, 0)) by56 hb)
            have n9_ := Aside0.mk (below_step by11 hb)
            clear HO227
            clear HO231
            clear HO236
            clear HO241
            clear BK220
            clear BK221
            clear BK237
            clear BK242
            clear HB
            have HO227 := n0_
            have HO231 := n1_
            have HO236 := n2_
            have HO241 := n3_
            have HO247 := n4_
            have BK220 := n5_
            have BK221 := n6_
            have BK237 := n7_
            have BK242 := n8_
            have HB := n9_
            clear n0_ n1_ n2_ n3_ n4_ n5_ n6_ n7_ n8_ n9_
            (try clear hb)
            (try clear hb2)
            (try clear hk)
            (try clear hi)
            (try clear ho0)
            obtain ⟨Ao94, co94, eo94⟩ := Kd.R_slice HO247.out
            (first | subst eo94 | (injection eo94 with f1_ f2_ f3_; have f4_ := f1_.symm; have f5_ := f3_.symm; clear f1_ f2_ f3_; subst f4_; subst f5_))
            refine hK.out _ _ ⟨(blk_cell BK237.out 0).trans rfl, (blk_cell BK237.out 1).trans rfl, (blk_cell BK220.out 0).trans rfl, (blk_cell BK220.out 1).trans rfl⟩ (fun hHeld => ?_)
            clear hK K
            refine norm_ (a' := ?_) ?_ ?_
            rotate_left
            · show Act.put _ (some 37) _ = _
              simp only [Act.put, List.setIfInBounds_toArray, List.set_cons_zero, List.set_cons_succ, i64_w, i32_w]
              rfl
            refine one_ (i := 3) (N := some 38) #[true, true, true, true, false] rfl rfl by8 (by decide) (fun K hK => ?_)
            refine goes_ Try.func19 by8 rfl #[.agg #[.int .i64 t233, .slice Ao81 t234.length co81], .agg #[.int .i64 t244, .slice Ao94 t245.length co94]] (by rfl) rfl rfl by1 ?_
            with_reducible refine (laws_eqImage.calls k t233 _ _ t234 t244 _ _ t245 true _ ?side1 ?side2 ?side3 ?side4 A57.out).mono ?_
            (case side1 => repeat (first | exact (Kd.R_reads' HO236.out).2.2 | (with_reducible refine Kd.C_alloc ?_ _) | (with_reducible refine Kd.C_drewN ?_ _) | (with_reducible refine Kd.C_drew ?_)))
            (case side2 => exact (Kd.R_reads' HO236.out).2.1)
            (case side3 => repeat (first | exact (Kd.R_reads' HO247.out).2.2 | (with_reducible refine Kd.C_alloc ?_ _) | (with_reducible refine Kd.C_drewN ?_ _) | (with_reducible refine Kd.C_drew ?_)))
            (case side4 => exact (Kd.R_reads' HO247.out).2.1)
            rintro e w95 ⟨rfl, hb⟩
            refine ⟨_, rfl, ?_⟩
            have n0_ := Aside0.mk (Kd.R_below by12 hb)
            have n1_ := Aside0.mk (Kd.R_below by13 hb)
            have n2_ := Aside0.mk (Kd.R_below by20 hb)
            have n3_ := Aside0.mk (Kd.R_below by28 hb)
            have n4_ := Aside0.mk (Kd.R_below by63 hb)
            have n5_ := Aside0.mk (blk_below (g := gb220) (o := .cells #[.int .i64 a0_0, .slice A0_1 l0_1.length c0_1] 24 (0, 0)) by9 hb)
            have n6_ := Aside0.mk (blk_below (g := gb221) (o := .cells #[.int .i64 a1_0, .slice A1_1 l1_1.length c1_1] 24 (0, 0)) by10 hb)
            have n7_ := Aside0.mk (blk_below (g := gb237) (o := .cells #[.int .i64 t233, .slice Ao81 t234.length co81] 29 (0, 0)) by37 hb)
            have n8_ := Aside0.mk (blk_below (g := gb242) (o := .cells #[.int .i64 t238, .slice Ao89 t239.length co89] 29 (0, 0)) by56 hb)
            have n9_ := Aside0.mk (below_step by11 hb)
            clear HO227
            clear HO231
            clear HO236
            clear HO241
            clear HO247
            clear BK220
            clear BK221
            clear BK237
            clear BK242
            clear HB
            have HO227 := n0_
            have HO231 := n1_
            have HO236 := n2_
            have HO241 := n3_
            have HO247 := n4_
            have BK220 := n5_
            have BK221 := n6_
            have BK237 := n7_
            have BK242 := n8_
            have HB := n9_
            clear n0_ n1_ n2_ n3_ n4_ n5_ n6_ n7_ n8_ n9_
            (try clear hb)
            (try clear hb2)
            (try clear hk)
            (try clear hi)
            refine hK.out _ _ ⟨(blk_cell BK237.out 0).trans rfl, (blk_cell BK237.out 1).trans rfl, (blk_cell BK220.out 0).trans rfl, (blk_cell BK220.out 1).trans rfl⟩ (fun hHeld => ?_)
            clear hK K
            refine norm_ (a' := ?_) ?_ ?_
            rotate_left
            · show Act.put _ (some 38) _ = _
              simp only [Act.put, List.setIfInBounds_toArray, List.set_cons_zero, List.set_cons_succ, i64_w, i32_w]
              rfl
            refine pure_ (i := 4) (N := some 39) (v := ?_) (a' := ?_) #[true, true, true, true, true] rfl rfl by8 (fun _ _ _ h => h) (Or.inl ⟨by rfl, ?_⟩) ?_ ?_
            rotate_left
            · intro w'
              go_simp
              with_reducible rfl
            rotate_left
            · simp only [Act.put, List.setIfInBounds_toArray, List.set_cons_zero, List.set_cons_succ, i64_w, i32_w]
              rfl
            refine done_ by8 ?_
            try go_wp2
            have n0_ := Aside0.mk (Kd.R_drew HO227.out)
            have n1_ := Aside0.mk (Kd.R_drew HO231.out)
            have n2_ := Aside0.mk (Kd.R_drew HO236.out)
            have n3_ := Aside0.mk (Kd.R_drew HO241.out)
            have n4_ := Aside0.mk (Kd.R_drew HO247.out)
            have n5_ := Aside0.mk (blk_drew BK220.out)
            have n6_ := Aside0.mk (blk_drew BK221.out)
            have n7_ := Aside0.mk (blk_drew BK237.out)
            have n8_ := Aside0.mk (blk_drew BK242.out)
            have n9_ := Aside0.mk (below_drew1 HB.out)
            clear HO227
            clear HO231
            clear HO236
            clear HO241
            clear HO247
            clear BK220
            clear BK221
            clear BK237
            clear BK242
            clear HB
            have HO227 := n0_
            have HO231 := n1_
            have HO236 := n2_
            have HO241 := n3_
            have HO247 := n4_
            have BK220 := n5_
            have BK221 := n6_
            have BK237 := n7_
            have BK242 := n8_
            have HB := n9_
            clear n0_ n1_ n2_ n3_ n4_ n5_ n6_ n7_ n8_ n9_
            refine start_ (n := 5) (S := fun w' => w'.cell? ⟨gb242, 0, none⟩ = some (.int .i64 t238) ∧ w'.cell? ⟨gb242, 1, none⟩ = some (.slice Ao89 t239.length co89) ∧ w'.cell? ⟨gb221, 0, none⟩ = some (.int .i64 a1_0) ∧ w'.cell? ⟨gb221, 1, none⟩ = some (.slice A1_1 l1_1.length c1_1)) (ds := []) #[false, false, false, false, false] by8 rfl rfl ⟨(blk_cell BK242.out 0).trans rfl, (blk_cell BK242.out 1).trans rfl, (blk_cell BK221.out 0).trans rfl, (blk_cell BK221.out 1).trans rfl⟩ (fun hHeld => ?_)
            generalize w95.drew = w96 at HO227 HO231 HO236 HO241 HO247 BK220 BK221 BK237 BK242 HB hHeld ⊢
            refine take_ (i := 0) (N := some 40) (v := ?_) (a' := ?_) #[true, false, false, false, false] rfl rfl by8 (fun _ _ _ h => h) (Or.inl ⟨by rfl, ?_⟩) hHeld ?_ ?_
            rotate_left
            · rintro w' ⟨s0, s1, s2, s3⟩
              go_simp
              with_reducible rfl
            rotate_left
            · simp only [Act.put, List.setIfInBounds_toArray, List.set_cons_zero, List.set_cons_succ, i64_w, i32_w]
              rfl
            refine take_ (i := 1) (N := some 41) (v := ?_) (a' := ?_) #[true, true, false, false, false] rfl rfl by8 (fun _ _ _ h => h) (Or.inl ⟨by rfl, ?_⟩) hHeld ?_ ?_
            rotate_left
            · rintro w' ⟨s0, s1, s2, s3⟩
              go_simp
              with_reducible rfl
            rotate_left
            · simp only [Act.put, List.setIfInBounds_toArray, List.set_cons_zero, List.set_cons_succ, i64_w, i32_w]
              rfl
            refine one_ (i := 2) (N := some 42) #[true, true, true, false, false] rfl rfl by8 (by decide) (fun K hK => ?_)
            refine goes_ Try.func17 by8 rfl #[.agg #[.int .i64 a1_0, .slice A1_1 l1_1.length c1_1]] (by rfl) rfl rfl by1 ?_
            with_reducible refine (laws_toImage.calls k a1_0 _ _ l1_1 t249 t250 _ ?side1 ?side2 A59.out).mono ?_
            (case side1 => repeat (first | exact (Kd.C_below HR1_1.out HB.out) | (with_reducible refine Kd.C_alloc ?_ _) | (with_reducible refine Kd.C_drewN ?_ _) | (with_reducible refine Kd.C_drew ?_)))
            (case side2 => exact HC1_1.out)
            rintro e w97 ⟨v251, rfl, ho0, hb⟩
            refine ⟨_, rfl, ?_⟩
            have n0_ := Aside0.mk (Kd.R_elder' by12 (Kd.R_base ho0) hb)
            have n1_ := Aside0.mk (Kd.R_elder' by13 (Kd.R_base ho0) hb)
            have n2_ := Aside0.mk (Kd.R_elder' by20 (Kd.R_base ho0) hb)
            have n3_ := Aside0.mk (Kd.R_elder' by28 (Kd.R_base ho0) hb)
            have n4_ := Aside0.mk (Kd.R_elder' by63 (Kd.R_base ho0) hb)
            have n5_ := Aside0.mk (Kd.R_lower (Kd.R_new' (Kd.R_new' (Kd.R_new' (Kd.R_new' (Kd.R_new' ho0 (Kd.R_lt by12)) (Kd.R_lt by13)) (Kd.R_lt by20)) (Kd.R_lt by28)) (Kd.R_lt by63)) (below_size by11))
            have n6_ := Aside0.mk (blk_below (g := gb220) (o := .cells #[.int .i64 a0_0, .slice A0_1 l0_1.length c0_1] 24 (0, 0)) by9 hb)
            have n7_ := Aside0.mk (blk_below (g := gb221) (o := .cells #[.int .i64 a1_0, .slice A1_1 l1_1.length c1_1] 24 (0, 0)) by10 hb)
            have n8_ := Aside0.mk (blk_below (g := gb237) (o := .cells #[.int .i64 t233, .slice Ao81 t234.length co81] 29 (0, 0)) by37 hb)
            have n9_ := Aside0.mk (blk_below (g := gb242) (o := .cells #[.int .i64 t238, .slice Ao89 t239.length co89] 29 (0, 0)) by56 hb)
            have n10_ := Aside0.mk (below_step by11 hb)
            clear HO227
            clear HO231
            clear HO236
            clear HO241
            clear HO247
            clear BK220
            clear BK221
            clear BK237
            clear BK242
            clear HB
            have HO227 := n0_
            have HO231 := n1_
            have HO236 := n2_
            have HO241 := n3_
            have HO247 := n4_
            have HO252 := n5_
            have BK220 := n6_
            have BK221 := n7_
            have BK237 := n8_
            have BK242 := n9_
            have HB := n10_
            clear n0_ n1_ n2_ n3_ n4_ n5_ n6_ n7_ n8_ n9_ n10_
            (try clear hb)
            (try clear hb2)
            (try clear hk)
            (try clear hi)
            (try clear ho0)
            obtain ⟨Ao98, co98, eo98⟩ := Kd.R_slice HO252.out
            (first | subst eo98 | (injection eo98 with f1_ f2_ f3_; have f4_ := f1_.symm; have f5_ := f3_.symm; clear f1_ f2_ f3_; subst f4_; subst f5_))
            refine hK.out _ _ ⟨(blk_cell BK242.out 0).trans rfl, (blk_cell BK242.out 1).trans rfl, (blk_cell BK221.out 0).trans rfl, (blk_cell BK221.out 1).trans rfl⟩ (fun hHeld => ?_)
            clear hK K
            refine norm_ (a' := ?_) ?_ ?_
            rotate_left
            · show Act.put _ (some 42) _ = _
              simp only [Act.put, List.setIfInBounds_toArray, List.set_cons_zero, List.set_cons_succ, i64_w, i32_w]
              rfl
            refine one_ (i := 3) (N := some 43) #[true, true, true, true, false] rfl rfl by8 (by decide) (fun K hK => ?_)
            refine goes_ Try.func19 by8 rfl #[.agg #[.int .i64 t238, .slice Ao89 t239.length co89], .agg #[.int .i64 t249, .slice Ao98 t250.length co98]] (by rfl) rfl rfl by1 ?_
            with_reducible refine (laws_eqImage.calls k t238 _ _ t239 t249 _ _ t250 true _ ?side1 ?side2 ?side3 ?side4 A60.out).mono ?_
            (case side1 => repeat (first | exact (Kd.R_reads' HO241.out).2.2 | (with_reducible refine Kd.C_alloc ?_ _) | (with_reducible refine Kd.C_drewN ?_ _) | (with_reducible refine Kd.C_drew ?_)))
            (case side2 => exact (Kd.R_reads' HO241.out).2.1)
            (case side3 => repeat (first | exact (Kd.R_reads' HO252.out).2.2 | (with_reducible refine Kd.C_alloc ?_ _) | (with_reducible refine Kd.C_drewN ?_ _) | (with_reducible refine Kd.C_drew ?_)))
            (case side4 => exact (Kd.R_reads' HO252.out).2.1)
            rintro e w99 ⟨rfl, hb⟩
            refine ⟨_, rfl, ?_⟩
            have n0_ := Aside0.mk (Kd.R_below by12 hb)
            have n1_ := Aside0.mk (Kd.R_below by13 hb)
            have n2_ := Aside0.mk (Kd.R_below by20 hb)
            have n3_ := Aside0.mk (Kd.R_below by28 hb)
            have n4_ := Aside0.mk (Kd.R_below by63 hb)
            have n5_ := Aside0.mk (Kd.R_below by124 hb)
            have n6_ := Aside0.mk (blk_below (g := gb220) (o := .cells #[.int .i64 a0_0, .slice A0_1 l0_1.length c0_1] 24 (0, 0)) by9 hb)
            have n7_ := Aside0.mk (blk_below (g := gb221) (o := .cells #[.int .i64 a1_0, .slice A1_1 l1_1.length c1_1] 24 (0, 0)) by10 hb)
            have n8_ := Aside0.mk (blk_below (g := gb237) (o := .cells #[.int .i64 t233, .slice Ao81 t234.length co81] 29 (0, 0)) by37 hb)
            have n9_ := Aside0.mk (blk_below (g := gb242) (o := .cells #[.int .i64 t238, .slice Ao89 t239.length co89] 29 (0, 0)) by56 hb)
            have n10_ := Aside0.mk (below_step by11 hb)
            clear HO227
            clear HO231
            clear HO236
            clear HO241
            clear HO247
            clear HO252
            clear BK220
            clear BK221
            clear BK237
            clear BK242
            clear HB
            have HO227 := n0_
            have HO231 := n1_
            have HO236 := n2_
            have HO241 := n3_
            have HO247 := n4_
            have HO252 := n5_
            have BK220 := n6_
            have BK221 := n7_
            have BK237 := n8_
            have BK242 := n9_
            have HB := n10_
            clear n0_ n1_ n2_ n3_ n4_ n5_ n6_ n7_ n8_ n9_ n10_
            (try clear hb)
            (try clear hb2)
            (try clear hk)
            (try clear hi)
            refine hK.out _ _ ⟨(blk_cell BK242.out 0).trans rfl, (blk_cell BK242.out 1).trans rfl, (blk_cell BK221.out 0).trans rfl, (blk_cell BK221.out 1).trans rfl⟩ (fun hHeld => ?_)
            clear hK K
            refine norm_ (a' := ?_) ?_ ?_
            rotate_left
            · show Act.put _ (some 43) _ = _
              simp only [Act.put, List.setIfInBounds_toArray, List.set_cons_zero, List.set_cons_succ, i64_w, i32_w]
              rfl
            refine pure_ (i := 4) (N := some 44) (v := ?_) (a' := ?_) #[true, true, true, true, true] rfl rfl by8 (fun _ _ _ h => h) (Or.inl ⟨by rfl, ?_⟩) ?_ ?_
            rotate_left
            · intro w'
              go_simp
              with_reducible rfl
            rotate_left
            · simp only [Act.put, List.setIfInBounds_toArray, List.set_cons_zero, List.set_cons_succ, i64_w, i32_w]
              rfl
            refine done_ by8 ?_
            try go_wp2
            go_ret
            exact ⟨by first | rfl | (simp [errW_none, errW_some] <;> rfl) | (simp [*, errW_none, errW_some] <;> rfl), by repeat (first | (with_reducible first | exact HB.out | apply below_alloc | apply pw_below_drewN | apply below_drew1 | refine below_set ?_ GE220.out | refine below_set ?_ GE221.out | refine below_set ?_ GE237.out | refine below_set ?_ GE242.out) | exact HB.out)⟩
          · replace c61 := Bool.eq_false_iff.mpr c61
            subst c61
            have H1 : (some false) = some r := by rw [if_neg (show ¬ (false = true) by decide)] at H; exact H
            clear H
            have H := H1
            clear H1
            obtain rfl := Option.some.inj H
            go_enter Try.func3, Try.ntmps3
            try go_wp2_with (first | ((with_reducible refine gate_dst (N := 2) rfl ?_); refine box_event ?hg (N := 2) ?hd (cs := #[.int .i64 a0_0, .slice A0_1 l0_1.length c0_1]) (t := 24) ?hr ?_; (case hd => rfl); (case hg => rfl); (case hr => first | (go_simp; done) | (go_simp; rfl)); intro gb220 hg w100 hbox hb; have n0_ := Aside0.mk (below_step by2 hb); have n1_ := Aside0.mk (hbox); have n2_ := Aside0.mk ((by0 : w.heap.size ≤ gb220)); have n3_ := Aside0.mk ((by0 : w.heap.size ≤ gb220)); clear HB; have HB := n0_; have BK220 := n1_; have GW220 := n2_; have GE220 := n3_; clear n0_ n1_ n2_ n3_; clear hb hbox hg) | ((with_reducible refine gate_dst (N := 3) rfl ?_); refine box_event ?hg (N := 3) ?hd (cs := #[.int .i64 a1_0, .slice A1_1 l1_1.length c1_1]) (t := 24) ?hr ?_; (case hd => rfl); (case hg => rfl); (case hr => first | (go_simp; done) | (go_simp; rfl)); intro gb221 hg w101 hbox hb; have n0_ := Aside0.mk (blk_below (g := gb220) (o := .cells #[.int .i64 a0_0, .slice A0_1 l0_1.length c0_1] 24 (0, 0)) by9 hb); have n1_ := Aside0.mk (below_step by60 hb); have n2_ := Aside0.mk (hbox); have n3_ := Aside0.mk ((by24 : w.heap.size ≤ gb221)); have n4_ := Aside0.mk ((by24 : w.heap.size ≤ gb221)); have n5_ := Aside0.mk ((by15 : gb220 ≠ gb221)); have n6_ := Aside0.mk ((by16 : gb221 ≠ gb220)); clear BK220; clear HB; have BK220 := n0_; have HB := n1_; have BK221 := n2_; have GW221 := n3_; have GE221 := n4_; have NB220_221 := n5_; have NB221_220 := n6_; clear n0_ n1_ n2_ n3_ n4_ n5_ n6_; clear hb hbox hg; have hnb102 := NB220_221.out; have hnc102 := NB221_220.out; have hcz103_0 : w101.cell? ⟨gb220, 0, none⟩ = some (.int .i64 a0_0) := (blk_cell BK220.out 0).trans rfl; have hcz103_1 : w101.cell? ⟨gb220, 1, none⟩ = some (.slice A0_1 l0_1.length c0_1) := (blk_cell BK220.out 1).trans rfl; have hfz103_0 := blk_frozen BK220.out 0; have hfz103_1 := blk_frozen BK220.out 1) | ((with_reducible refine gate_callee (f := 15) rfl ?_); refine goesL_ (some 12) rfl rfl Try.func15 by8 rfl #[.agg #[.int .i64 a0_0, .slice A0_1 l0_1.length c0_1], .int .i64 1048576] rfl by1 ?_; (with_reducible refine (laws_szImage.calls k a0_0 _ _ l0_1 1048576 t222 _ ?side1 ?side2 A3.out).mono ?_); (case side1 => repeat (first | exact (Kd.C_below HR0_1.out HB.out) | (with_reducible refine Kd.C_alloc ?_ _) | (with_reducible refine Kd.C_drewN ?_ _) | (with_reducible refine Kd.C_drew ?_))); (case side2 => exact HC0_1.out); rintro e w104 ⟨rfl, hb⟩; refine ⟨_, rfl, ?_⟩; have n0_ := Aside0.mk (blk_below (g := gb220) (o := .cells #[.int .i64 a0_0, .slice A0_1 l0_1.length c0_1] 24 (0, 0)) by9 hb); have n1_ := Aside0.mk (blk_below (g := gb221) (o := .cells #[.int .i64 a1_0, .slice A1_1 l1_1.length c1_1] 24 (0, 0)) by10 hb); have n2_ := Aside0.mk (below_step by3 hb); clear BK220; clear BK221; clear HB; have BK220 := n0_; have BK221 := n1_; have HB := n2_; clear n0_ n1_ n2_; (try clear hb); (try clear hb2); (try clear hk); (try clear hi); have hcz105_0 : w104.cell? ⟨gb221, 0, none⟩ = some (.int .i64 a1_0) := (blk_cell BK221.out 0).trans rfl; have hcz105_1 : w104.cell? ⟨gb221, 1, none⟩ = some (.slice A1_1 l1_1.length c1_1) := (blk_cell BK221.out 1).trans rfl; have hfz105_0 := blk_frozen BK221.out 0; have hfz105_1 := blk_frozen BK221.out 1) | ((with_reducible refine gate_callee (f := 15) rfl ?_); refine goesL_ (some 17) rfl rfl Try.func15 by8 rfl #[.agg #[.int .i64 a1_0, .slice A1_1 l1_1.length c1_1], .int .i64 t222] rfl by1 ?_; (with_reducible refine (laws_szImage.calls k a1_0 _ _ l1_1 t222 t223 _ ?side1 ?side2 A10.out).mono ?_); (case side1 => repeat (first | exact (Kd.C_below HR1_1.out HB.out) | (with_reducible refine Kd.C_alloc ?_ _) | (with_reducible refine Kd.C_drewN ?_ _) | (with_reducible refine Kd.C_drew ?_))); (case side2 => exact HC1_1.out); rintro e w106 ⟨rfl, hb⟩; refine ⟨_, rfl, ?_⟩; have n0_ := Aside0.mk (blk_below (g := gb220) (o := .cells #[.int .i64 a0_0, .slice A0_1 l0_1.length c0_1] 24 (0, 0)) by9 hb); have n1_ := Aside0.mk (blk_below (g := gb221) (o := .cells #[.int .i64 a1_0, .slice A1_1 l1_1.length c1_1] 24 (0, 0)) by10 hb); have n2_ := Aside0.mk (below_step by3 hb); clear BK220; clear BK221; clear HB; have BK220 := n0_; have BK221 := n1_; have HB := n2_; clear n0_ n1_ n2_; (try clear hb); (try clear hb2); (try clear hk); (try clear hi)))
            have n0_ := Aside0.mk (blk_drew BK220.out)
            have n1_ := Aside0.mk (blk_drew BK221.out)
            have n2_ := Aside0.mk (below_drew1 HB.out)
            clear BK220
            clear BK221
            clear HB
            have BK220 := n0_
            have BK221 := n1_
            have HB := n2_
            clear n0_ n1_ n2_
            refine start_ (n := 6) (S := fun w' => w'.cell? ⟨gb220, 0, none⟩ = some (.int .i64 a0_0) ∧ w'.cell? ⟨gb220, 1, none⟩ = some (.slice A0_1 l0_1.length c0_1) ∧ w'.cell? ⟨gb221, 0, none⟩ = some (.int .i64 a1_0) ∧ w'.cell? ⟨gb221, 1, none⟩ = some (.slice A1_1 l1_1.length c1_1)) (ds := []) #[false, false, false, false, false, false] by8 rfl rfl ⟨(blk_cell BK220.out 0).trans rfl, (blk_cell BK220.out 1).trans rfl, (blk_cell BK221.out 0).trans rfl, (blk_cell BK221.out 1).trans rfl⟩ (fun hHeld => ?_)
            generalize w106.drew = w107 at BK220 BK221 HB hHeld ⊢
            refine take_ (i := 0) (N := some 20) (v := ?_) (a' := ?_) #[true, false, false, false, false, false] rfl rfl by8 (fun _ _ _ h => h) (Or.inl ⟨by rfl, ?_⟩) hHeld ?_ ?_
            rotate_left
            · rintro w' ⟨s0, s1, s2, s3⟩
              go_simp
              with_reducible rfl
            rotate_left
            · simp only [Act.put, List.setIfInBounds_toArray, List.set_cons_zero, List.set_cons_succ, i64_w, i32_w]
              rfl
            refine take_ (i := 2) (N := some 22) (v := ?_) (a' := ?_) #[true, false, true, false, false, false] rfl rfl by8 (fun _ _ _ h => h) (Or.inl ⟨by rfl, ?_⟩) hHeld ?_ ?_
            rotate_left
            · rintro w' ⟨s0, s1, s2, s3⟩
              go_simp
              with_reducible rfl
            rotate_left
            · simp only [Act.put, List.setIfInBounds_toArray, List.set_cons_zero, List.set_cons_succ, i64_w, i32_w]
              rfl
            refine one_ (i := 1) (N := some 21) #[true, true, true, false, false, false] rfl rfl by8 (by decide) (fun K hK => ?_)
            refine goes_ Try.func17 by8 rfl #[.agg #[.int .i64 a0_0, .slice A0_1 l0_1.length c0_1]] (by rfl) rfl rfl by1 ?_
            with_reducible refine (laws_toImage.calls k a0_0 _ _ l0_1 t224 t225 _ ?side1 ?side2 A19.out).mono ?_
            (case side1 => repeat (first | exact (Kd.C_below HR0_1.out HB.out) | (with_reducible refine Kd.C_alloc ?_ _) | (with_reducible refine Kd.C_drewN ?_ _) | (with_reducible refine Kd.C_drew ?_)))
            (case side2 => exact HC0_1.out)
            rintro e w108 ⟨v226, rfl, ho0, hb⟩
            refine ⟨_, rfl, ?_⟩
            have n0_ := Aside0.mk (Kd.R_lower ho0 (below_size by3))
            have n1_ := Aside0.mk (blk_below (g := gb220) (o := .cells #[.int .i64 a0_0, .slice A0_1 l0_1.length c0_1] 24 (0, 0)) by9 hb)
            have n2_ := Aside0.mk (blk_below (g := gb221) (o := .cells #[.int .i64 a1_0, .slice A1_1 l1_1.length c1_1] 24 (0, 0)) by10 hb)
            have n3_ := Aside0.mk (below_step by3 hb)
            clear BK220
            clear BK221
            clear HB
            have HO227 := n0_
            have BK220 := n1_
            have BK221 := n2_
            have HB := n3_
            clear n0_ n1_ n2_ n3_
            (try clear hb)
            (try clear hb2)
            (try clear hk)
            (try clear hi)
            (try clear ho0)
            refine hK.out _ _ ⟨(blk_cell BK220.out 0).trans rfl, (blk_cell BK220.out 1).trans rfl, (blk_cell BK221.out 0).trans rfl, (blk_cell BK221.out 1).trans rfl⟩ (fun hHeld => ?_)
            clear hK K
            refine norm_ (a' := ?_) ?_ ?_
            rotate_left
            · show Act.put _ (some 21) _ = _
              simp only [Act.put, List.setIfInBounds_toArray, List.set_cons_zero, List.set_cons_succ, i64_w, i32_w]
              rfl
            refine one_ (i := 3) (N := some 23) #[true, true, true, true, false, false] rfl rfl by8 (by decide) (fun K hK => ?_)
            refine goes_ Try.func17 by8 rfl #[.agg #[.int .i64 a1_0, .slice A1_1 l1_1.length c1_1]] (by rfl) rfl rfl by1 ?_
            with_reducible refine (laws_toImage.calls k a1_0 _ _ l1_1 t228 t229 _ ?side1 ?side2 A20.out).mono ?_
            (case side1 => repeat (first | exact (Kd.C_below HR1_1.out HB.out) | (with_reducible refine Kd.C_alloc ?_ _) | (with_reducible refine Kd.C_drewN ?_ _) | (with_reducible refine Kd.C_drew ?_)))
            (case side2 => exact HC1_1.out)
            rintro e w109 ⟨v230, rfl, ho0, hb⟩
            refine ⟨_, rfl, ?_⟩
            have n0_ := Aside0.mk (Kd.R_elder' by12 (Kd.R_base ho0) hb)
            have n1_ := Aside0.mk (Kd.R_lower (Kd.R_new' ho0 (Kd.R_lt by12)) (below_size by3))
            have n2_ := Aside0.mk (blk_below (g := gb220) (o := .cells #[.int .i64 a0_0, .slice A0_1 l0_1.length c0_1] 24 (0, 0)) by9 hb)
            have n3_ := Aside0.mk (blk_below (g := gb221) (o := .cells #[.int .i64 a1_0, .slice A1_1 l1_1.length c1_1] 24 (0, 0)) by10 hb)
            have n4_ := Aside0.mk (below_step by3 hb)
            clear HO227
            clear BK220
            clear BK221
            clear HB
            have HO227 := n0_
            have HO231 := n1_
            have BK220 := n2_
            have BK221 := n3_
            have HB := n4_
            clear n0_ n1_ n2_ n3_ n4_
            (try clear hb)
            (try clear hb2)
            (try clear hk)
            (try clear hi)
            (try clear ho0)
            obtain ⟨Ao110, co110, eo110⟩ := Kd.R_slice HO227.out
            (first | subst eo110 | (injection eo110 with f1_ f2_ f3_; have f4_ := f1_.symm; have f5_ := f3_.symm; clear f1_ f2_ f3_; subst f4_; subst f5_))
            obtain ⟨Ao111, co111, eo111⟩ := Kd.R_slice HO231.out
            (first | subst eo111 | (injection eo111 with f1_ f2_ f3_; have f4_ := f1_.symm; have f5_ := f3_.symm; clear f1_ f2_ f3_; subst f4_; subst f5_))
            refine hK.out _ _ ⟨(blk_cell BK220.out 0).trans rfl, (blk_cell BK220.out 1).trans rfl, (blk_cell BK221.out 0).trans rfl, (blk_cell BK221.out 1).trans rfl⟩ (fun hHeld => ?_)
            clear hK K
            refine norm_ (a' := ?_) ?_ ?_
            rotate_left
            · show Act.put _ (some 23) _ = _
              simp only [Act.put, List.setIfInBounds_toArray, List.set_cons_zero, List.set_cons_succ, i64_w, i32_w]
              rfl
            refine one_ (i := 4) (N := some 24) #[true, true, true, true, true, false] rfl rfl by8 (by decide) (fun K hK => ?_)
            refine goes_ Try.func16 by8 rfl #[.agg #[.int .i64 t224, .slice Ao110 t225.length co110], .agg #[.int .i64 t228, .slice Ao111 t229.length co111]] (by rfl) rfl rfl by1 ?_
            with_reducible refine (spec_SameImage.calls k t224 _ _ t225 t228 _ _ t229 t232 _ ?side1 ?side2 ?side3 ?side4 A21.out).mono ?_
            (case side1 => repeat (first | exact (Kd.R_reads' HO227.out).2.2 | (with_reducible refine Kd.C_alloc ?_ _) | (with_reducible refine Kd.C_drewN ?_ _) | (with_reducible refine Kd.C_drew ?_)))
            (case side2 => exact (Kd.R_reads' HO227.out).2.1)
            (case side3 => repeat (first | exact (Kd.R_reads' HO231.out).2.2 | (with_reducible refine Kd.C_alloc ?_ _) | (with_reducible refine Kd.C_drewN ?_ _) | (with_reducible refine Kd.C_drew ?_)))
            (case side4 => exact (Kd.R_reads' HO231.out).2.1)
            rintro e w112 ⟨rfl, hb⟩
            refine ⟨_, rfl, ?_⟩
            have n0_ := Aside0.mk (Kd.R_below by12 hb)
            have n1_ := Aside0.mk (Kd.R_below by13 hb)
            have n2_ := Aside0.mk (blk_below (g := gb220) (o := .cells #[.int .i64 a0_0, .slice A0_1 l0_1.length c0_1] 24 (0, 0)) by9 hb)
            have n3_ := Aside0.mk (blk_below (g := gb221) (o := .cells #[.int .i64 a1_0, .slice A1_1 l1_1.length c1_1] 24 (0, 0)) by10 hb)
            have n4_ := Aside0.mk (below_step by3 hb)
            clear HO227
            clear HO231
            clear BK220
            clear BK221
            clear HB
            have HO227 := n0_
            have HO231 := n1_
            have BK220 := n2_
            have BK221 := n3_
            have HB := n4_
            clear n0_ n1_ n2_ n3_ n4_
            (try clear hb)
            (try clear hb2)
            (try clear hk)
            (try clear hi)
            refine hK.out _ _ ⟨(blk_cell BK220.out 0).trans rfl, (blk_cell BK220.out 1).trans rfl, (blk_cell BK221.out 0).trans rfl, (blk_cell BK221.out 1).trans rfl⟩ (fun hHeld => ?_)
            clear hK K
            refine norm_ (a' := ?_) ?_ ?_
            rotate_left
            · show Act.put _ (some 24) _ = _
              simp only [Act.put, List.setIfInBounds_toArray, List.set_cons_zero, List.set_cons_succ, i64_w, i32_w]
              rfl
            refine pure_ (i := 5) (N := some 6) (v := ?_) (a' := ?_) #[true, true, true, true, true, true] rfl rfl by8 (fun _ _ _ h => h) (Or.inl ⟨by rfl, ?_⟩) ?_ ?_
            rotate_left
            · intro w'
              go_simp
              with_reducible rfl
            rotate_left
            · simp only [Act.put, List.setIfInBounds_toArray, List.set_cons_zero, List.set_cons_succ, i64_w, i32_w]
              rfl
            refine done_ by8 ?_
            have hcz113_0 : w112.cell? ⟨gb220, 0, none⟩ = some (.int .i64 a0_0) := (blk_cell BK220.out 0).trans rfl
            have hcz113_1 : w112.cell? ⟨gb220, 1, none⟩ = some (.slice A0_1 l0_1.length c0_1) := (blk_cell BK220.out 1).trans rfl
            have hfz113_0 := blk_frozen BK220.out 0
            have hfz113_1 := blk_frozen BK220.out 1
            try go_wp2_with (first | ((with_reducible refine gate_callee (f := 17) rfl ?_); refine goesL_ (some 26) rfl rfl Try.func17 by8 rfl #[.agg #[.int .i64 a0_0, .slice A0_1 l0_1.length c0_1]] rfl by1 ?_; (with_reducible refine (laws_toImage.calls k a0_0 _ _ l0_1 t233 t234 _ ?side1 ?side2 A22.out).mono ?_); (case side1 => repeat (first | exact (Kd.C_below HR0_1.out HB.out) | (with_reducible refine Kd.C_alloc ?_ _) | (with_reducible refine Kd.C_drewN ?_ _) | (with_reducible refine Kd.C_drew ?_))); (case side2 => exact HC0_1.out); rintro e w114 ⟨v235, rfl, ho0, hb⟩; refine ⟨_, rfl, ?_⟩; have n0_ := Aside0.mk (Kd.R_elder' by12 (Kd.R_base ho0) hb); have n1_ := Aside0.mk (Kd.R_elder' by13 (Kd.R_base ho0) hb); have n2_ := Aside0.mk (Kd.R_lower (Kd.R_new' (Kd.R_new' ho0 (Kd.R_lt by12)) (Kd.R_lt by13)) (below_size by3)); have n3_ := Aside0.mk (blk_below (g := gb220) (o := .cells #[.int .i64 a0_0, .slice A0_1 l0_1.length c0_1] 24 (0, 0)) by9 hb); have n4_ := Aside0.mk (blk_below (g := gb221) (o := .cells #[.int .i64 a1_0, .slice A1_1 l1_1.length c1_1] 24 (0, 0)) by10 hb); have n5_ := Aside0.mk (below_step by3 hb); clear HO227; clear HO231; clear BK220; clear BK221; clear HB; have HO227 := n0_; have HO231 := n1_; have HO236 := n2_; have BK220 := n3_; have BK221 := n4_; have HB := n5_; clear n0_ n1_ n2_ n3_ n4_ n5_; (try clear hb); (try clear hb2); (try clear hk); (try clear hi); (try clear ho0)) | ((with_reducible refine gate_dst (N := 7) rfl ?_); refine box_event ?hg (N := 7) ?hd (cs := #[.int .i64 0, .slice none 0 0]) (t := 29) ?hr ?_; (case hd => rfl); (case hg => rfl); (case hr => first | (go_simp; done) | (go_simp; rfl)); intro gb237 hg w115 hbox hb; have n0_ := Aside0.mk (Kd.R_below by12 hb); have n1_ := Aside0.mk (Kd.R_below by13 hb); have n2_ := Aside0.mk (Kd.R_below by20 hb); have n3_ := Aside0.mk (blk_below (g := gb220) (o := .cells #[.int .i64 a0_0, .slice A0_1 l0_1.length c0_1] 24 (0, 0)) by9 hb); have n4_ := Aside0.mk (blk_below (g := gb221) (o := .cells #[.int .i64 a1_0, .slice A1_1 l1_1.length c1_1] 24 (0, 0)) by10 hb); have n5_ := Aside0.mk (below_step by3 hb); have n6_ := Aside0.mk (hbox); have n7_ := Aside0.mk ((by33 : w.heap.size ≤ gb237)); have n8_ := Aside0.mk ((by33 : w.heap.size ≤ gb237)); have n9_ := Aside0.mk ((by15 : gb220 ≠ gb237)); have n10_ := Aside0.mk ((by16 : gb237 ≠ gb220)); have n11_ := Aside0.mk ((by31 : gb221 ≠ gb237)); have n12_ := Aside0.mk ((by32 : gb237 ≠ gb221)); clear HO227; clear HO231; clear HO236; clear BK220; clear BK221; clear HB; have HO227 := n0_; have HO231 := n1_; have HO236 := n2_; have BK220 := n3_; have BK221 := n4_; have HB := n5_; have BK237 := n6_; have GW237 := n7_; have GE237 := n8_; have NB220_237 := n9_; have NB237_220 := n10_; have NB221_237 := n11_; have NB237_221 := n12_; clear n0_ n1_ n2_ n3_ n4_ n5_ n6_ n7_ n8_ n9_ n10_ n11_ n12_; clear hb hbox hg; have hnb116 := NB237_220.out; have hnc116 := NB220_237.out; have hnb117 := NB237_221.out; have hnc117 := NB221_237.out; have hcz118_0 : w115.cell? ⟨gb237, 0, none⟩ = some (.int .i64 0) := (blk_cell BK237.out 0).trans rfl; have hcz118_1 : w115.cell? ⟨gb237, 1, none⟩ = some (.slice none 0 0) := (blk_cell BK237.out 1).trans rfl; have hfz118_0 := blk_frozen BK237.out 0; have hfz118_1 := blk_frozen BK237.out 1; obtain ⟨Ao119, co119, eo119⟩ := Kd.R_slice HO236.out; subst eo119; have hcz120_0 : w115.cell? ⟨gb221, 0, none⟩ = some (.int .i64 a1_0) := (blk_cell BK221.out 0).trans rfl; have hcz120_1 : w115.cell? ⟨gb221, 1, none⟩ = some (.slice A1_1 l1_1.length c1_1) := (blk_cell BK221.out 1).trans rfl; have hfz120_0 := blk_frozen BK221.out 0; have hfz120_1 := blk_frozen BK221.out 1) | ((with_reducible refine gate_callee (f := 17) rfl ?_); refine goesL_ (some 28) rfl rfl Try.func17 by8 rfl #[.agg #[.int .i64 a1_0, .slice A1_1 l1_1.length c1_1]] rfl by1 ?_; (with_reducible refine (laws_toImage.calls k a1_0 _ _ l1_1 t238 t239 _ ?side1 ?side2 A23.out).mono ?_); (case side1 => exact Kd.C_below HR1_1.out by14); (case side2 => exact HC1_1.out); rintro e w121 ⟨v240, rfl, ho0, hb⟩; refine ⟨_, rfl, ?_⟩; have n0_ := Aside0.mk (Kd.R_elder' by77 (Kd.R_base ho0) hb); have n1_ := Aside0.mk (Kd.R_elder' by78 (Kd.R_base ho0) hb); have n2_ := Aside0.mk (Kd.R_elder' by79 (Kd.R_base ho0) hb); have n3_ := Aside0.mk (Kd.R_lower (Kd.R_new' (Kd.R_new' (Kd.R_new' ho0 (Kd.R_lt by77)) (Kd.R_lt by78)) (Kd.R_lt by79)) (below_size by14)); have n4_ := Aside0.mk (blk_below (g := gb220) (o := .cells #[.int .i64 a0_0, .slice A0_1 l0_1.length c0_1] 24 (0, 0)) by40 hb); have n5_ := Aside0.mk (blk_below (g := gb221) (o := .cells #[.int .i64 a1_0, .slice A1_1 l1_1.length c1_1] 24 (0, 0)) by41 hb); have n6_ := Aside0.mk (blk_below (g := gb237) (o := .cells #[.int .i64 t233, .slice Ao119 t234.length co119] 29 (0, 0)) by34 hb); have n7_ := Aside0.mk (below_step by14 hb); clear HO227; clear HO231; clear HO236; clear BK220; clear BK221; clear BK237; clear HB; have HO227 := n0_; have HO231 := n1_; have HO236 := n2_; have HO241 := n3_; have BK220 := n4_; have BK221 := n5_; have BK237 := n6_; have HB := n7_; clear n0_ n1_ n2_ n3_ n4_ n5_ n6_ n7_; (try clear hb); (try clear hb2); (try clear hk); (try clear hi); (try clear ho0)) | ((with_reducible refine gate_dst (N := 8) rfl ?_); refine box_event ?hg (N := 8) ?hd (cs := #[.int .i64 0, .slice none 0 0]) (t := 29) ?hr ?_; (case hd => rfl); (case hg => rfl); (case hr => first | (go_simp; done) | (go_simp; rfl)); intro gb242 hg w122 hbox hb; have n0_ := Aside0.mk (Kd.R_below by12 hb); have n1_ := Aside0.mk (Kd.R_below by13 hb); have n2_ := Aside0.mk (Kd.R_below by20 hb); have n3_ := Aside0.mk (Kd.R_below by28 hb); have n4_ := Aside0.mk (blk_below (g := gb220) (o := .cells #[.int .i64 a0_0, .slice A0_1 l0_1.length c0_1] 24 (0, 0)) by9 hb); have n5_ := Aside0.mk (blk_below (g := gb221) (o := .cells #[.int .i64 a1_0, .slice A1_1 l1_1.length c1_1] 24 (0, 0)) by10 hb); have n6_ := Aside0.mk (blk_below (g := gb237) (o := .cells #[.int .i64 t233, .slice Ao119 t234.length co119] 29 (0, 0)) by37 hb); have n7_ := Aside0.mk (below_step by14 hb); have n8_ := Aside0.mk (hbox); have n9_ := Aside0.mk ((by26 : w.heap.size ≤ gb242)); have n10_ := Aside0.mk ((by26 : w.heap.size ≤ gb242)); have n11_ := Aside0.mk ((by15 : gb220 ≠ gb242)); have n12_ := Aside0.mk ((by16 : gb242 ≠ gb220)); have n13_ := Aside0.mk ((by31 : gb221 ≠ gb242)); have n14_ := Aside0.mk ((by32 : gb242 ≠ gb221)); have n15_ := Aside0.mk ((by rw [hg]; exact Nat.ne_of_lt (blk_lt (g := gb237) (o := .cells #[.int .i64 t233, .slice Ao119 t234.length co119] 29 (0, 0)) by37) : gb237 ≠ gb242)); have n16_ := Aside0.mk ((by rw [hg]; exact Nat.ne_of_gt (blk_lt (g := gb237) (o := .cells #[.int .i64 t233, .slice Ao119 t234.length co119] 29 (0, 0)) by37) : gb242 ≠ gb237)); clear HO227; clear HO231; clear HO236; clear HO241; clear BK220; clear BK221; clear BK237; clear HB; have HO227 := n0_; have HO231 := n1_; have HO236 := n2_; have HO241 := n3_; have BK220 := n4_; have BK221 := n5_; have BK237 := n6_; have HB := n7_; have BK242 := n8_; have GW242 := n9_; have GE242 := n10_; have NB220_242 := n11_; have NB242_220 := n12_; have NB221_242 := n13_; have NB242_221 := n14_; have NB237_242 := n15_; have NB242_237 := n16_; clear n0_ n1_ n2_ n3_ n4_ n5_ n6_ n7_ n8_ n9_ n10_ n11_ n12_ n13_ n14_ n15_ n16_; clear hb hbox hg; have hnb123 := NB242_220.out; have hnc123 := NB220_242.out; have hnb124 := NB242_221.out; have hnc124 := NB221_242.out; have hnb125 := NB242_237.out; have hnc125 := NB237_242.out; have hcz126_0 : w122.cell? ⟨gb242, 0, none⟩ = some (.int .i64 0) := (blk_cell BK242.out 0).trans rfl; have hcz126_1 : w122.cell? ⟨gb242, 1, none⟩ = some (.slice none 0 0) := (blk_cell BK242.out 1).trans rfl; have hfz126_0 := blk_frozen BK242.out 0; have hfz126_1 := blk_frozen BK242.out 1; obtain ⟨Ao127, co127, eo127⟩ := Kd.R_slice HO241.out; subst eo127; have hcz128_0 : w122.cell? ⟨gb237, 0, none⟩ = some (.int .i64 t233) := (blk_cell BK237.out 0).trans rfl; have hcz128_1 : w122.cell? ⟨gb237, 1, none⟩ = some (.slice Ao119 t234.length co119) := (blk_cell BK237.out 1).trans rfl; have hfz128_0 := blk_frozen BK237.out 0; have hfz128_1 := blk_frozen BK237.out 1) | ((with_reducible refine gate_callee (f := 18) rfl ?_); refine goesL_ (some 31) rfl rfl Try.func18 by8 rfl #[.agg #[.int .i64 t233, .slice Ao119 t234.length co119], .agg #[.int .i64 t238, .slice Ao127 t239.length co127]] rfl by1 ?_; (with_reducible refine (impl_SameImage.calls k t233 _ _ t234 t238 _ _ t239 t243 _ ?side1 ?side2 ?side3 ?side4 A24.out).mono ?_); (case side1 => refine (Kd.R_reads' (e := 111) (base := w.heap.size) (ok := fun k_ => (((True ∧ some k_ ≠ (.slice Ao110 t225.length co110 : Value).ownBlock) ∧ some k_ ≠ (.slice Ao111 t229.length co111 : Value).ownBlock) ∧ some k_ ≠ (.slice Ao127 t239.length co127 : Value).ownBlock)) (n := t234.length) (c := co119) ?_).2.2; exact by80); (case side2 => exact (Kd.R_reads' HO236.out).2.1); (case side3 => refine (Kd.R_reads' (e := 111) (base := w.heap.size) (ok := fun k_ => (((True ∧ some k_ ≠ (.slice Ao110 t225.length co110 : Value).ownBlock) ∧ some k_ ≠ (.slice Ao111 t229.length co111 : Value).ownBlock) ∧ some k_ ≠ (.slice Ao119 t234.length co119 : Value).ownBlock)) (n := t239.length) (c := co127) ?_).2.2; exact by81); (case side4 => exact (Kd.R_reads' HO241.out).2.1); rintro e w129 ⟨rfl, hb⟩; refine ⟨_, rfl, ?_⟩; have n0_ := Aside0.mk (Kd.R_below (by (with_reducible repeat (first | apply Kd.R_alloc | apply Kd.R_drewN | apply Kd.R_drew)); exact (Kd.R_mono (Kd.R_far (p := ⟨gb242, 1, none⟩) (Kd.R_far (p := ⟨gb242, 0, none⟩) (Kd.R_types HO227.out BK242.out (by decide)) (fun _ hk => hk.2) (.int .i64 t238)) (fun _ hk => hk.2) (.slice Ao127 t239.length co127)) (fun _ h_ => h_.1))) hb); have n1_ := Aside0.mk (Kd.R_below (by (with_reducible repeat (first | apply Kd.R_alloc | apply Kd.R_drewN | apply Kd.R_drew)); exact (Kd.R_mono (Kd.R_far (p := ⟨gb242, 1, none⟩) (Kd.R_far (p := ⟨gb242, 0, none⟩) (Kd.R_types HO231.out BK242.out (by decide)) (fun _ hk => hk.2) (.int .i64 t238)) (fun _ hk => hk.2) (.slice Ao127 t239.length co127)) (fun _ h_ => h_.1))) hb); have n2_ := Aside0.mk (Kd.R_below by80 hb); have n3_ := Aside0.mk (Kd.R_below by81 hb); have n4_ := Aside0.mk (blk_below (g := gb220) (o := .cells #[.int .i64 a0_0, .slice A0_1 l0_1.length c0_1] 24 (0, 0)) by42 hb); have n5_ := Aside0.mk (blk_below (g := gb221) (o := .cells #[.int .i64 a1_0, .slice A1_1 l1_1.length c1_1] 24 (0, 0)) by43 hb); have n6_ := Aside0.mk (blk_below (g := gb237) (o := .cells #[.int .i64 t233, .slice Ao119 t234.length co119] 29 (0, 0)) by44 hb); have n7_ := Aside0.mk (blk_below (g := gb242) (o := .cells #[.int .i64 t238, .slice Ao127 t239.length co127] 29 (0, 0)) by35 hb); have n8_ := Aside0.mk (below_step by11 hb); clear HO227; clear HO231; clear HO236; clear HO241; clear BK220; clear BK221; clear BK237; clear BK242; clear HB; have HO227 := n0_; have HO231 := n1_; have HO236 := n2_; have HO241 := n3_; have BK220 := n4_; have BK221 := n5_; have BK237 := n6_; have BK242 := n7_; have HB := n8_; clear n0_ n1_ n2_ n3_ n4_ n5_ n6_ n7_ n8_; (try clear hb); (try clear hb2); (try clear hk); (try clear hi)))
            have n0_ := Aside0.mk (Kd.R_drew HO227.out)
            have n1_ := Aside0.mk (Kd.R_drew HO231.out)
            have n2_ := Aside0.mk (Kd.R_drew HO236.out)
            have n3_ := Aside0.mk (Kd.R_drew HO241.out)
            have n4_ := Aside0.mk (blk_drew BK220.out)
            have n5_ := Aside0.mk (blk_drew BK221.out)
            have n6_ := Aside0.mk (blk_drew BK237.out)
            have n7_ := Aside0.mk (blk_drew BK242.out)
            have n8_ := Aside0.mk (below_drew1 HB.out)
            clear HO227
            clear HO231
            clear HO236
            clear HO241
            clear BK220
            clear BK221
            clear BK237
            clear BK242
            clear HB
            have HO227 := n0_
            have HO231 := n1_
            have HO236 := n2_
            have HO241 := n3_
            have BK220 := n4_
            have BK221 := n5_
            have BK237 := n6_
            have BK242 := n7_
            have HB := n8_
            clear n0_ n1_ n2_ n3_ n4_ n5_ n6_ n7_ n8_
            refine start_ (n := 5) (S := fun w' => w'.cell? ⟨gb237, 0, none⟩ = some (.int .i64 t233) ∧ w'.cell? ⟨gb237, 1, none⟩ = some (.slice Ao119 t234.length co119) ∧ w'.cell? ⟨gb220, 0, none⟩ = some (.int .i64 a0_0) ∧ w'.cell? ⟨gb220, 1, none⟩ = some (.slice A0_1 l0_1.length c0_1)) (ds := []) #[false, false, false, false, false] by8 rfl rfl ⟨(blk_cell BK237.out 0).trans rfl, (blk_cell BK237.out 1).trans rfl, (blk_cell BK220.out 0).trans rfl, (blk_cell BK220.out 1).trans rfl⟩ (fun hHeld => ?_)
            generalize w129.drew = w130 at HO227 HO231 HO236 HO241 BK220 BK221 BK237 BK242 HB hHeld ⊢
            refine take_ (i := 0) (N := some 35) (v := ?_) (a' := ?_) #[true, false, false, false, false] rfl rfl by8 (fun _ _ _ h => h) (Or.inl ⟨by rfl, ?_⟩) hHeld ?_ ?_
            rotate_left
            · rintro w' ⟨s0, s1, s2, s3⟩
              go_simp
              with_reducible rfl
            rotate_left
            · simp only [Act.put, List.setIfInBounds_toArray, List.set_cons_zero, List.set_cons_succ, i64_w, i32_w]
              rfl
            refine take_ (i := 1) (N := some 36) (v := ?_) (a' := ?_) #[true, true, false, false, false] rfl rfl by8 (fun _ _ _ h => h) (Or.inl ⟨by rfl, ?_⟩) hHeld ?_ ?_
            rotate_left
            · rintro w' ⟨s0, s1, s2, s3⟩
              go_simp
              with_reducible rfl
            rotate_left
            · simp only [Act.put, List.setIfInBounds_toArray, List.set_cons_zero, List.set_cons_succ, i64_w, i32_w]
              rfl
            refine one_ (i := 2) (N := some 37) #[true, true, true, false, false] rfl rfl by8 (by decide) (fun K hK => ?_)
            refine goes_ Try.func17 by8 rfl #[.agg #[.int .i64 a0_0, .slice A0_1 l0_1.length c0_1]] (by rfl) rfl rfl by1 ?_
            with_reducible refine (laws_toImage.calls k a0_0 _ _ l0_1 t244 t245 _ ?side1 ?side2 A56.out).mono ?_
            (case side1 => repeat (first | exact (Kd.C_below HR0_1.out HB.out) | (with_reducible refine Kd.C_alloc ?_ _) | (with_reducible refine Kd.C_drewN ?_ _) | (with_reducible refine Kd.C_drew ?_)))
            (case side2 => exact HC0_1.out)
            rintro e w131 ⟨v246, rfl, ho0, hb⟩
            refine ⟨_, rfl, ?_⟩
            have n0_ := Aside0.mk (Kd.R_elder' by12 (Kd.R_base ho0) hb)
            have n1_ := Aside0.mk (Kd.R_elder' by13 (Kd.R_base ho0) hb)
            have n2_ := Aside0.mk (Kd.R_elder' by20 (Kd.R_base ho0) hb)
            have n3_ := Aside0.mk (Kd.R_elder' by28 (Kd.R_base ho0) hb)
            have n4_ := Aside0.mk (Kd.R_lower (Kd.R_new' (Kd.R_new' (Kd.R_new' (Kd.R_new' ho0 (Kd.R_lt by12)) (Kd.R_lt by13)) (Kd.R_lt by20)) (Kd.R_lt by28)) (below_size by11))
            have n5_ := Aside0.mk (blk_below (g := gb220) (o := .cells #[.int .i64 a0_0, .slice A0_1 l0_1.length c0_1] 24 (0, 0)) by9 hb)
            have n6_ := Aside0.mk (blk_below (g := gb221) (o := .cells #[.int .i64 a1_0, .slice A1_1 l1_1.length c1_1] 24 (0, 0)) by10 hb)
            have n7_ := Aside0.mk (blk_below (g := gb237) (o := .cells #[.int .i64 t233, .slice Ao119 t234.length co119] 29 (0, 0)) by37 hb)
            have n8_ := Aside0.mk (blk_below (g := gb242) (o := .cells #[.int .i64 t238, .slice Ao127 t239.length co127] 29 (0, 0)) by56 hb)
            have n9_ := Aside0.mk (below_step by11 hb)
            clear HO227
            clear HO231
            clear HO236
            clear HO241
            clear BK220
            clear BK221
            clear BK237
            clear BK242
            clear HB
            have HO227 := n0_
            have HO231 := n1_
            have HO236 := n2_
            have HO241 := n3_
            have HO247 := n4_
            have BK220 := n5_
            have BK221 := n6_
            have BK237 := n7_
            have BK242 := n8_
            have HB := n9_
            clear n0_ n1_ n2_ n3_ n4_ n5_ n6_ n7_ n8_ n9_
            (try clear hb)
            (try clear hb2)
            (try clear hk)
            (try clear hi)
            (try clear ho0)
            obtain ⟨Ao132, co132, eo132⟩ := Kd.R_slice HO247.out
            (first | subst eo132 | (injection eo132 with f1_ f2_ f3_; have f4_ := f1_.symm; have f5_ := f3_.symm; clear f1_ f2_ f3_; subst f4_; subst f5_))
            refine hK.out _ _ ⟨(blk_cell BK237.out 0).trans rfl, (blk_cell BK237.out 1).trans rfl, (blk_cell BK220.out 0).trans rfl, (blk_cell BK220.out 1).trans rfl⟩ (fun hHeld => ?_)
            clear hK K
            refine norm_ (a' := ?_) ?_ ?_
            rotate_left
            · show Act.put _ (some 37) _ = _
              simp only [Act.put, List.setIfInBounds_toArray, List.set_cons_zero, List.set_cons_succ, i64_w, i32_w]
              rfl
            refine one_ (i := 3) (N := some 38) #[true, true, true, true, false] rfl rfl by8 (by decide) (fun K hK => ?_)
            refine goes_ Try.func19 by8 rfl #[.agg #[.int .i64 t233, .slice Ao119 t234.length co119], .agg #[.int .i64 t244, .slice Ao132 t245.length co132]] (by rfl) rfl rfl by1 ?_
            with_reducible refine (laws_eqImage.calls k t233 _ _ t234 t244 _ _ t245 true _ ?side1 ?side2 ?side3 ?side4 A57.out).mono ?_
            (case side1 => repeat (first | exact (Kd.R_reads' HO236.out).2.2 | (with_reducible refine Kd.C_alloc ?_ _) | (with_reducible refine Kd.C_drewN ?_ _) | (with_reducible refine Kd.C_drew ?_)))
            (case side2 => exact (Kd.R_reads' HO236.out).2.1)
            (case side3 => repeat (first | exact (Kd.R_reads' HO247.out).2.2 | (with_reducible refine Kd.C_alloc ?_ _) | (with_reducible refine Kd.C_drewN ?_ _) | (with_reducible refine Kd.C_drew ?_)))
            (case side4 => exact (Kd.R_reads' HO247.out).2.1)
            rintro e w133 ⟨rfl, hb⟩
            refine ⟨_, rfl, ?_⟩
            have n0_ := Aside0.mk (Kd.R_below by12 hb)
            have n1_ := Aside0.mk (Kd.R_below by13 hb)
            have n2_ := Aside0.mk (Kd.R_below by20 hb)
            have n3_ := Aside0.mk (Kd.R_below by28 hb)
            have n4_ := Aside0.mk (Kd.R_below by63 hb)
            have n5_ := Aside0.mk (blk_below (g := gb220) (o := .cells #[.int .i64 a0_0, .slice A0_1 l0_1.length c0_1] 24 (0, 0)) by9 hb)
            have n6_ := Aside0.mk (blk_below (g := gb221) (o := .cells #[.int .i64 a1_0, .slice A1_1 l1_1.length c1_1] 24 (0, 0)) by10 hb)
            have n7_ := Aside0.mk (blk_below (g := gb237) (o := .cells #[.int .i64 t233, .slice Ao119 t234.length co119] 29 (0, 0)) by37 hb)
            have n8_ := Aside0.mk (blk_below (g := gb242) (o := .cells #[.int .i64 t238, .slice Ao127 t239.length co127] 29 (0, 0)) by56 hb)
            have n9_ := Aside0.mk (below_step by11 hb)
            clear HO227
            clear HO231
            clear HO236
            clear HO241
            clear HO247
            clear BK220
            clear BK221
            clear BK237
            clear BK242
            clear HB
            have HO227 := n0_
            have HO231 := n1_
            have HO236 := n2_
            have HO241 := n3_
            have HO247 := n4_
            have BK220 := n5_
            have BK221 := n6_
            have BK237 := n7_
            have BK242 := n8_
            have HB := n9_
            clear n0_ n1_ n2_ n3_ n4_ n5_ n6_ n7_ n8_ n9_
            (try clear hb)
            (try clear hb2)
            (try clear hk)
            (try clear hi)
            refine hK.out _ _ ⟨(blk_cell BK237.out 0).trans rfl, (blk_cell BK237.out 1).trans rfl, (blk_cell BK220.out 0).trans rfl, (blk_cell BK220.out 1).trans rfl⟩ (fun hHeld => ?_)
            clear hK K
            refine norm_ (a' := ?_) ?_ ?_
            rotate_left
            · show Act.put _ (some 38) _ = _
              simp only [Act.put, List.setIfInBounds_toArray, List.set_cons_zero, List.set_cons_succ, i64_w, i32_w]
              rfl
            refine pure_ (i := 4) (N := some 39) (v := ?_) (a' := ?_) #[true, true, true, true, true] rfl rfl by8 (fun _ _ _ h => h) (Or.inl ⟨by rfl, ?_⟩) ?_ ?_
            rotate_left
            · intro w'
              go_simp
              with_reducible rfl
            rotate_left
            · simp only [Act.put, List.setIfInBounds_toArray, List.set_cons_zero, List.set_cons_succ, i64_w, i32_w]
              rfl
            refine done_ by8 ?_
            try go_wp2
            have n0_ := Aside0.mk (Kd.R_drew HO227.out)
            have n1_ := Aside0.mk (Kd.R_drew HO231.out)
            have n2_ := Aside0.mk (Kd.R_drew HO236.out)
            have n3_ := Aside0.mk (Kd.R_drew HO241.out)
            have n4_ := Aside0.mk (Kd.R_drew HO247.out)
            have n5_ := Aside0.mk (blk_drew BK220.out)
            have n6_ := Aside0.mk (blk_drew BK221.out)
            have n7_ := Aside0.mk (blk_drew BK237.out)
            have n8_ := Aside0.mk (blk_drew BK242.out)
            have n9_ := Aside0.mk (below_drew1 HB.out)
            clear HO227
            clear HO231
            clear HO236
            clear HO241
            clear HO247
            clear BK220
            clear BK221
            clear BK237
            clear BK242
            clear HB
            have HO227 := n0_
            have HO231 := n1_
            have HO236 := n2_
            have HO241 := n3_
            have HO247 := n4_
            have BK220 := n5_
            have BK221 := n6_
            have BK237 := n7_
            have BK242 := n8_
            have HB := n9_
            clear n0_ n1_ n2_ n3_ n4_ n5_ n6_ n7_ n8_ n9_
            refine start_ (n := 5) (S := fun w' => w'.cell? ⟨gb242, 0, none⟩ = some (.int .i64 t238) ∧ w'.cell? ⟨gb242, 1, none⟩ = some (.slice Ao127 t239.length co127) ∧ w'.cell? ⟨gb221, 0, none⟩ = some (.int .i64 a1_0) ∧ w'.cell? ⟨gb221, 1, none⟩ = some (.slice A1_1 l1_1.length c1_1)) (ds := []) #[false, false, false, false, false] by8 rfl rfl ⟨(blk_cell BK242.out 0).trans rfl, (blk_cell BK242.out 1).trans rfl, (blk_cell BK221.out 0).trans rfl, (blk_cell BK221.out 1).trans rfl⟩ (fun hHeld => ?_)
            generalize w133.drew = w134 at HO227 HO231 HO236 HO241 HO247 BK220 BK221 BK237 BK242 HB hHeld ⊢
            refine take_ (i := 0) (N := some 40) (v := ?_) (a' := ?_) #[true, false, false, false, false] rfl rfl by8 (fun _ _ _ h => h) (Or.inl ⟨by rfl, ?_⟩) hHeld ?_ ?_
            rotate_left
            · rintro w' ⟨s0, s1, s2, s3⟩
              go_simp
              with_reducible rfl
            rotate_left
            · simp only [Act.put, List.setIfInBounds_toArray, List.set_cons_zero, List.set_cons_succ, i64_w, i32_w]
              rfl
            refine take_ (i := 1) (N := some 41) (v := ?_) (a' := ?_) #[true, true, false, false, false] rfl rfl by8 (fun _ _ _ h => h) (Or.inl ⟨by rfl, ?_⟩) hHeld ?_ ?_
            rotate_left
            · rintro w' ⟨s0, s1, s2, s3⟩
              go_simp
              with_reducible rfl
            rotate_left
            · simp only [Act.put, List.setIfInBounds_toArray, List.set_cons_zero, List.set_cons_succ, i64_w, i32_w]
              rfl
            refine one_ (i := 2) (N := some 42) #[true, true, true, false, false] rfl rfl by8 (by decide) (fun K hK => ?_)
            refine goes_ Try.func17 by8 rfl #[.agg #[.int .i64 a1_0, .slice A1_1 l1_1.length c1_1]] (by rfl) rfl rfl by1 ?_
            with_reducible refine (laws_toImage.calls k a1_0 _ _ l1_1 t249 t250 _ ?side1 ?side2 A59.out).mono ?_
            (case side1 => repeat (first | exact (Kd.C_below HR1_1.out HB.out) | (with_reducible refine Kd.C_alloc ?_ _) | (with_reducible refine Kd.C_drewN ?_ _) | (with_reducible refine Kd.C_drew ?_)))
            (case side2 => exact HC1_1.out)
            rintro e w135 ⟨v251, rfl, ho0, hb⟩
            refine ⟨_, rfl, ?_⟩
            have n0_ := Aside0.mk (Kd.R_elder' by12 (Kd.R_base ho0) hb)
            have n1_ := Aside0.mk (Kd.R_elder' by13 (Kd.R_base ho0) hb)
            have n2_ := Aside0.mk (Kd.R_elder' by20 (Kd.R_base ho0) hb)
            have n3_ := Aside0.mk (Kd.R_elder' by28 (Kd.R_base ho0) hb)
            have n4_ := Aside0.mk (Kd.R_elder' by63 (Kd.R_base ho0) hb)
            have n5_ := Aside0.mk (Kd.R_lower (Kd.R_new' (Kd.R_new' (Kd.R_new' (Kd.R_new' (Kd.R_new' ho0 (Kd.R_lt by12)) (Kd.R_lt by13)) (Kd.R_lt by20)) (Kd.R_lt by28)) (Kd.R_lt by63)) (below_size by11))
            have n6_ := Aside0.mk (blk_below (g := gb220) (o := .cells #[.int .i64 a0_0, .slice A0_1 l0_1.length c0_1] 24 (0, 0)) by9 hb)
            have n7_ := Aside0.mk (blk_below (g := gb221) (o := .cells #[.int .i64 a1_0, .slice A1_1 l1_1.length c1_1] 24 (0, 0)) by10 hb)
            have n8_ := Aside0.mk (blk_below (g := gb237) (o := .cells #[.int .i64 t233, .slice Ao119 t234.length co119] 29 (0, 0)) by37 hb)
            have n9_ := Aside0.mk (blk_below (g := gb242) (o := .cells #[.int .i64 t238, .slice Ao127 t239.length co127] 29 (0, 0)) by56 hb)
            have n10_ := Aside0.mk (below_step by11 hb)
            clear HO227
            clear HO231
            clear HO236
            clear HO241
            clear HO247
            clear BK220
            clear BK221
            clear BK237
            clear BK242
            clear HB
            have HO227 := n0_
            have HO231 := n1_
            have HO236 := n2_
            have HO241 := n3_
            have HO247 := n4_
            have HO252 := n5_
            have BK220 := n6_
            have BK221 := n7_
            have BK237 := n8_
            have BK242 := n9_
            have HB := n10_
            clear n0_ n1_ n2_ n3_ n4_ n5_ n6_ n7_ n8_ n9_ n10_
            (try clear hb)
            (try clear hb2)
            (try clear hk)
            (try clear hi)
            (try clear ho0)
            obtain ⟨Ao136, co136, eo136⟩ := Kd.R_slice HO252.out
            (first | subst eo136 | (injection eo136 with f1_ f2_ f3_; have f4_ := f1_.symm; have f5_ := f3_.symm; clear f1_ f2_ f3_; subst f4_; subst f5_))
            refine hK.out _ _ ⟨(blk_cell BK242.out 0).trans rfl, (blk_cell BK242.out 1).trans rfl, (blk_cell BK221.out 0).trans rfl, (blk_cell BK221.out 1).trans rfl⟩ (fun hHeld => ?_)
            clear hK K
            refine norm_ (a' := ?_) ?_ ?_
            rotate_left
            · show Act.put _ (some 42) _ = _
              simp only [Act.put, List.setIfInBounds_toArray, List.set_cons_zero, List.set_cons_succ, i64_w, i32_w]
              rfl
            refine one_ (i := 3) (N := some 43) #[true, true, true, true, false] rfl rfl by8 (by decide) (fun K hK => ?_)
            refine goes_ Try.func19 by8 rfl #[.agg #[.int .i64 t238, .slice Ao127 t239.length co127], .agg #[.int .i64 t249, .slice Ao136 t250.length co136]] (by rfl) rfl rfl by1 ?_
            with_reducible refine (laws_eqImage.calls k t238 _ _ t239 t249 _ _ t250 false _ ?side1 ?side2 ?side3 ?side4 A60.out).mono ?_
            (case side1 => repeat (first | exact (Kd.R_reads' HO241.out).2.2 | (with_reducible refine Kd.C_alloc ?_ _) | (with_reducible refine Kd.C_drewN ?_ _) | (with_reducible refine Kd.C_drew ?_)))
            (case side2 => exact (Kd.R_reads' HO241.out).2.1)
            (case side3 => repeat (first | exact (Kd.R_reads' HO252.out).2.2 | (with_reducible refine Kd.C_alloc ?_ _) | (with_reducible refine Kd.C_drewN ?_ _) | (with_reducible refine Kd.C_drew ?_)))
            (case side4 => exact (Kd.R_reads' HO252.out).2.1)
            rintro e w137 ⟨rfl, hb⟩
            refine ⟨_, rfl, ?_⟩
            have n0_ := Aside0.mk (Kd.R_below by12 hb)
            have n1_ := Aside0.mk (Kd.R_below by13 hb)
            have n2_ := Aside0.mk (Kd.R_below by20 hb)
            have n3_ := Aside0.mk (Kd.R_below by28 hb)
            have n4_ := Aside0.mk (Kd.R_below by63 hb)
            have n5_ := Aside0.mk (Kd.R_below by124 hb)
            have n6_ := Aside0.mk (blk_below (g := gb220) (o := .cells #[.int .i64 a0_0, .slice A0_1 l0_1.length c0_1] 24 (0, 0)) by9 hb)
            have n7_ := Aside0.mk (blk_below (g := gb221) (o := .cells #[.int .i64 a1_0, .slice A1_1 l1_1.length c1_1] 24 (0, 0)) by10 hb)
            have n8_ := Aside0.mk (blk_below (g := gb237) (o := .cells #[.int .i64 t233, .slice Ao119 t234.length co119] 29 (0, 0)) by37 hb)
            have n9_ := Aside0.mk (blk_below (g := gb242) (o := .cells #[.int .i64 t238, .slice Ao127 t239.length co127] 29 (0, 0)) by56 hb)
            have n10_ := Aside0.mk (below_step by11 hb)
            clear HO227
            clear HO231
            clear HO236
            clear HO241
            clear HO247
            clear HO252
            clear BK220
            clear BK221
            clear BK237
            clear BK242
            clear HB
            have HO227 := n0_
            have HO231 := n1_
            have HO236 := n2_
            have HO241 := n3_
            have HO247 := n4_
            have HO252 := n5_
            have BK220 := n6_
            have BK221 := n7_
            have BK237 := n8_
            have BK242 := n9_
            have HB := n10_
            clear n0_ n1_ n2_ n3_ n4_ n5_ n6_ n7_ n8_ n9_ n10_
            (try clear hb)
            (try clear hb2)
            (try clear hk)
            (try clear hi)
            refine hK.out _ _ ⟨(blk_cell BK242.out 0).trans rfl, (blk_cell BK242.out 1).trans rfl, (blk_cell BK221.out 0).trans rfl, (blk_cell BK221.out 1).trans rfl⟩ (fun hHeld => ?_)
            clear hK K
            refine norm_ (a' := ?_) ?_ ?_
            rotate_left
            · show Act.put _ (some 43) _ = _
              simp only [Act.put, List.setIfInBounds_toArray, List.set_cons_zero, List.set_cons_succ, i64_w, i32_w]
              rfl
            refine pure_ (i := 4) (N := some 44) (v := ?_) (a' := ?_) #[true, true, true, true, true] rfl rfl by8 (fun _ _ _ h => h) (Or.inl ⟨by rfl, ?_⟩) ?_ ?_
            rotate_left
            · intro w'
              go_simp
              with_reducible rfl
            rotate_left
            · simp only [Act.put, List.setIfInBounds_toArray, List.set_cons_zero, List.set_cons_succ, i64_w, i32_w]
              rfl
            refine done_ by8 ?_
            try go_wp2
            go_ret
            exact ⟨by first | rfl | (simp [errW_none, errW_some] <;> rfl) | (simp [*, errW_none, errW_some] <;> rfl), by repeat (first | (with_reducible first | exact HB.out | apply below_alloc | apply pw_below_drewN | apply below_drew1 | refine below_set ?_ GE220.out | refine below_set ?_ GE221.out | refine below_set ?_ GE237.out | refine below_set ?_ GE242.out) | exact HB.out)⟩
        · replace c58 := Bool.eq_false_iff.mpr c58
          subst c58
          have H1 : (some false) = some r := by rw [if_neg (show ¬ (false = true) by decide)] at H; exact H
          clear H
          have H := H1
          clear H1
          obtain rfl := Option.some.inj H
          go_enter Try.func3, Try.ntmps3
          try go_wp2_with (first | ((with_reducible refine gate_dst (N := 2) rfl ?_); refine box_event ?hg (N := 2) ?hd (cs := #[.int .i64 a0_0, .slice A0_1 l0_1.length c0_1]) (t := 24) ?hr ?_; (case hd => rfl); (case hg => rfl); (case hr => first | (go_simp; done) | (go_simp; rfl)); intro gb220 hg w138 hbox hb; have n0_ := Aside0.mk (below_step by2 hb); have n1_ := Aside0.mk (hbox); have n2_ := Aside0.mk ((by0 : w.heap.size ≤ gb220)); have n3_ := Aside0.mk ((by0 : w.heap.size ≤ gb220)); clear HB; have HB := n0_; have BK220 := n1_; have GW220 := n2_; have GE220 := n3_; clear n0_ n1_ n2_ n3_; clear hb hbox hg) | ((with_reducible refine gate_dst (N := 3) rfl ?_); refine box_event ?hg (N := 3) ?hd (cs := #[.int .i64 a1_0, .slice A1_1 l1_1.length c1_1]) (t := 24) ?hr ?_; (case hd => rfl); (case hg => rfl); (case hr => first | (go_simp; done) | (go_simp; rfl)); intro gb221 hg w139 hbox hb; have n0_ := Aside0.mk (blk_below (g := gb220) (o := .cells #[.int .i64 a0_0, .slice A0_1 l0_1.length c0_1] 24 (0, 0)) by9 hb); have n1_ := Aside0.mk (below_step by60 hb); have n2_ := Aside0.mk (hbox); have n3_ := Aside0.mk ((by24 : w.heap.size ≤ gb221)); have n4_ := Aside0.mk ((by24 : w.heap.size ≤ gb221)); have n5_ := Aside0.mk ((by15 : gb220 ≠ gb221)); have n6_ := Aside0.mk ((by16 : gb221 ≠ gb220)); clear BK220; clear HB; have BK220 := n0_; have HB := n1_; have BK221 := n2_; have GW221 := n3_; have GE221 := n4_; have NB220_221 := n5_; have NB221_220 := n6_; clear n0_ n1_ n2_ n3_ n4_ n5_ n6_; clear hb hbox hg; have hnb140 := NB220_221.out; have hnc140 := NB221_220.out; have hcz141_0 : w139.cell? ⟨gb220, 0, none⟩ = some (.int .i64 a0_0) := (blk_cell BK220.out 0).trans rfl; have hcz141_1 : w139.cell? ⟨gb220, 1, none⟩ = some (.slice A0_1 l0_1.length c0_1) := (blk_cell BK220.out 1).trans rfl; have hfz141_0 := blk_frozen BK220.out 0; have hfz141_1 := blk_frozen BK220.out 1) | ((with_reducible refine gate_callee (f := 15) rfl ?_); refine goesL_ (some 12) rfl rfl Try.func15 by8 rfl #[.agg #[.int .i64 a0_0, .slice A0_1 l0_1.length c0_1], .int .i64 1048576] rfl by1 ?_; (with_reducible refine (laws_szImage.calls k a0_0 _ _ l0_1 1048576 t222 _ ?side1 ?side2 A3.out).mono ?_); (case side1 => repeat (first | exact (Kd.C_below HR0_1.out HB.out) | (with_reducible refine Kd.C_alloc ?_ _) | (with_reducible refine Kd.C_drewN ?_ _) | (with_reducible refine Kd.C_drew ?_))); (case side2 => exact HC0_1.out); rintro e w142 ⟨rfl, hb⟩; refine ⟨_, rfl, ?_⟩; have n0_ := Aside0.mk (blk_below (g := gb220) (o := .cells #[.int .i64 a0_0, .slice A0_1 l0_1.length c0_1] 24 (0, 0)) by9 hb); have n1_ := Aside0.mk (blk_below (g := gb221) (o := .cells #[.int .i64 a1_0, .slice A1_1 l1_1.length c1_1] 24 (0, 0)) by10 hb); have n2_ := Aside0.mk (below_step by3 hb); clear BK220; clear BK221; clear HB; have BK220 := n0_; have BK221 := n1_; have HB := n2_; clear n0_ n1_ n2_; (try clear hb); (try clear hb2); (try clear hk); (try clear hi); have hcz143_0 : w142.cell? ⟨gb221, 0, none⟩ = some (.int .i64 a1_0) := (blk_cell BK221.out 0).trans rfl; have hcz143_1 : w142.cell? ⟨gb221, 1, none⟩ = some (.slice A1_1 l1_1.length c1_1) := (blk_cell BK221.out 1).trans rfl; have hfz143_0 := blk_frozen BK221.out 0; have hfz143_1 := blk_frozen BK221.out 1) | ((with_reducible refine gate_callee (f := 15) rfl ?_); refine goesL_ (some 17) rfl rfl Try.func15 by8 rfl #[.agg #[.int .i64 a1_0, .slice A1_1 l1_1.length c1_1], .int .i64 t222] rfl by1 ?_; (with_reducible refine (laws_szImage.calls k a1_0 _ _ l1_1 t222 t223 _ ?side1 ?side2 A10.out).mono ?_); (case side1 => repeat (first | exact (Kd.C_below HR1_1.out HB.out) | (with_reducible refine Kd.C_alloc ?_ _) | (with_reducible refine Kd.C_drewN ?_ _) | (with_reducible refine Kd.C_drew ?_))); (case side2 => exact HC1_1.out); rintro e w144 ⟨rfl, hb⟩; refine ⟨_, rfl, ?_⟩; have n0_ := Aside0.mk (blk_below (g := gb220) (o := .cells #[.int .i64 a0_0, .slice A0_1 l0_1.length c0_1] 24 (0, 0)) by9 hb); have n1_ := Aside0.mk (blk_below (g := gb221) (o := .cells #[.int .i64 a1_0, .slice A1_1 l1_1.length c1_1] 24 (0, 0)) by10 hb); have n2_ := Aside0.mk (below_step by3 hb); clear BK220; clear BK221; clear HB; have BK220 := n0_; have BK221 := n1_; have HB := n2_; clear n0_ n1_ n2_; (try clear hb); (try clear hb2); (try clear hk); (try clear hi)))
          have n0_ := Aside0.mk (blk_drew BK220.out)
          have n1_ := Aside0.mk (blk_drew BK221.out)
          have n2_ := Aside0.mk (below_drew1 HB.out)
          clear BK220
          clear BK221
          clear HB
          have BK220 := n0_
          have BK221 := n1_
          have HB := n2_
          clear n0_ n1_ n2_
          refine start_ (n := 6) (S := fun w' => w'.cell? ⟨gb220, 0, none⟩ = some (.int .i64 a0_0) ∧ w'.cell? ⟨gb220, 1, none⟩ = some (.slice A0_1 l0_1.length c0_1) ∧ w'.cell? ⟨gb221, 0, none⟩ = some (.int .i64 a1_0) ∧ w'.cell? ⟨gb221, 1, none⟩ = some (.slice A1_1 l1_1.length c1_1)) (ds := []) #[false, false, false, false, false, false] by8 rfl rfl ⟨(blk_cell BK220.out 0).trans rfl, (blk_cell BK220.out 1).trans rfl, (blk_cell BK221.out 0).trans rfl, (blk_cell BK221.out 1).trans rfl⟩ (fun hHeld => ?_)
          generalize w144.drew = w145 at BK220 BK221 HB hHeld ⊢
          refine take_ (i := 0) (N := some 20) (v := ?_) (a' := ?_) #[true, false, false, false, false, false] rfl rfl by8 (fun _ _ _ h => h) (Or.inl ⟨by rfl, ?_⟩) hHeld ?_ ?_
          rotate_left
          · rintro w' ⟨s0, s1, s2, s3⟩
            go_simp
            with_reducible rfl
          rotate_left
          · simp only [Act.put, List.setIfInBounds_toArray, List.set_cons_zero, List.set_cons_succ, i64_w, i32_w]
            rfl
          refine take_ (i := 2) (N := some 22) (v := ?_) (a' := ?_) #[true, false, true, false, false, false] rfl rfl by8 (fun _ _ _ h => h) (Or.inl ⟨by rfl, ?_⟩) hHeld ?_ ?_
          rotate_left
          · rintro w' ⟨s0, s1, s2, s3⟩
            go_simp
            with_reducible rfl
          rotate_left
          · simp only [Act.put, List.setIfInBounds_toArray, List.set_cons_zero, List.set_cons_succ, i64_w, i32_w]
            rfl
          refine one_ (i := 1) (N := some 21) #[true, true, true, false, false, false] rfl rfl by8 (by decide) (fun K hK => ?_)
          refine goes_ Try.func17 by8 rfl #[.agg #[.int .i64 a0_0, .slice A0_1 l0_1.length c0_1]] (by rfl) rfl rfl by1 ?_
          with_reducible refine (laws_toImage.calls k a0_0 _ _ l0_1 t224 t225 _ ?side1 ?side2 A19.out).mono ?_
          (case side1 => repeat (first | exact (Kd.C_below HR0_1.out HB.out) | (with_reducible refine Kd.C_alloc ?_ _) | (with_reducible refine Kd.C_drewN ?_ _) | (with_reducible refine Kd.C_drew ?_)))
          (case side2 => exact HC0_1.out)
          rintro e w146 ⟨v226, rfl, ho0, hb⟩
          refine ⟨_, rfl, ?_⟩
          have n0_ := Aside0.mk (Kd.R_lower ho0 (below_size by3))
          have n1_ := Aside0.mk (blk_below (g := gb220) (o := .cells #[.int .i64 a0_0, .slice A0_1 l0_1.length c0_1] 24 (0, 0)) by9 hb)
          have n2_ := Aside0.mk (blk_below (g := gb221) (o := .cells #[.int .i64 a1_0, .slice A1_1 l1_1.length c1_1] 24 (0, 0)) by10 hb)
          have n3_ := Aside0.mk (below_step by3 hb)
          clear BK220
          clear BK221
          clear HB
          have HO227 := n0_
          have BK220 := n1_
          have BK221 := n2_
          have HB := n3_
          clear n0_ n1_ n2_ n3_
          (try clear hb)
          (try clear hb2)
          (try clear hk)
          (try clear hi)
          (try clear ho0)
          refine hK.out _ _ ⟨(blk_cell BK220.out 0).trans rfl, (blk_cell BK220.out 1).trans rfl, (blk_cell BK221.out 0).trans rfl, (blk_cell BK221.out 1).trans rfl⟩ (fun hHeld => ?_)
          clear hK K
          refine norm_ (a' := ?_) ?_ ?_
          rotate_left
          · show Act.put _ (some 21) _ = _
            simp only [Act.put, List.setIfInBounds_toArray, List.set_cons_zero, List.set_cons_succ, i64_w, i32_w]
            rfl
          refine one_ (i := 3) (N := some 23) #[true, true, true, true, false, false] rfl rfl by8 (by decide) (fun K hK => ?_)
          refine goes_ Try.func17 by8 rfl #[.agg #[.int .i64 a1_0, .slice A1_1 l1_1.length c1_1]] (by rfl) rfl rfl by1 ?_
          with_reducible refine (laws_toImage.calls k a1_0 _ _ l1_1 t228 t229 _ ?side1 ?side2 A20.out).mono ?_
          (case side1 => repeat (first | exact (Kd.C_below HR1_1.out HB.out) | (with_reducible refine Kd.C_alloc ?_ _) | (with_reducible refine Kd.C_drewN ?_ _) | (with_reducible refine Kd.C_drew ?_)))
          (case side2 => exact HC1_1.out)
          rintro e w147 ⟨v230, rfl, ho0, hb⟩
          refine ⟨_, rfl, ?_⟩
          have n0_ := Aside0.mk (Kd.R_elder' by12 (Kd.R_base ho0) hb)
          have n1_ := Aside0.mk (Kd.R_lower (Kd.R_new' ho0 (Kd.R_lt by12)) (below_size by3))
          have n2_ := Aside0.mk (blk_below (g := gb220) (o := .cells #[.int .i64 a0_0, .slice A0_1 l0_1.length c0_1] 24 (0, 0)) by9 hb)
          have n3_ := Aside0.mk (blk_below (g := gb221) (o := .cells #[.int .i64 a1_0, .slice A1_1 l1_1.length c1_1] 24 (0, 0)) by10 hb)
          have n4_ := Aside0.mk (below_step by3 hb)
          clear HO227
          clear BK220
          clear BK221
          clear HB
          have HO227 := n0_
          have HO231 := n1_
          have BK220 := n2_
          have BK221 := n3_
          have HB := n4_
          clear n0_ n1_ n2_ n3_ n4_
          (try clear hb)
          (try clear hb2)
          (try clear hk)
          (try clear hi)
          (try clear ho0)
          obtain ⟨Ao148, co148, eo148⟩ := Kd.R_slice HO227.out
          (first | subst eo148 | (injection eo148 with f1_ f2_ f3_; have f4_ := f1_.symm; have f5_ := f3_.symm; clear f1_ f2_ f3_; subst f4_; subst f5_))
          obtain ⟨Ao149, co149, eo149⟩ := Kd.R_slice HO231.out
          (first | subst eo149 | (injection eo149 with f1_ f2_ f3_; have f4_ := f1_.symm; have f5_ := f3_.symm; clear f1_ f2_ f3_; subst f4_; subst f5_))
          refine hK.out _ _ ⟨(blk_cell BK220.out 0).trans rfl, (blk_cell BK220.out 1).trans rfl, (blk_cell BK221.out 0).trans rfl, (blk_cell BK221.out 1).trans rfl⟩ (fun hHeld => ?_)
          clear hK K
          refine norm_ (a' := ?_) ?_ ?_
          rotate_left
          · show Act.put _ (some 23) _ = _
            simp only [Act.put, List.setIfInBounds_toArray, List.set_cons_zero, List.set_cons_succ, i64_w, i32_w]
            rfl
          refine one_ (i := 4) (N := some 24) #[true, true, true, true, true, false] rfl rfl by8 (by decide) (fun K hK => ?_)
          refine goes_ Try.func16 by8 rfl #[.agg #[.int .i64 t224, .slice Ao148 t225.length co148], .agg #[.int .i64 t228, .slice Ao149 t229.length co149]] (by rfl) rfl rfl by1 ?_
          with_reducible refine (spec_SameImage.calls k t224 _ _ t225 t228 _ _ t229 t232 _ ?side1 ?side2 ?side3 ?side4 A21.out).mono ?_
          (case side1 => repeat (first | exact (Kd.R_reads' HO227.out).2.2 | (with_reducible refine Kd.C_alloc ?_ _) | (with_reducible refine Kd.C_drewN ?_ _) | (with_reducible refine Kd.C_drew ?_)))
          (case side2 => exact (Kd.R_reads' HO227.out).2.1)
          (case side3 => repeat (first | exact (Kd.R_reads' HO231.out).2.2 | (with_reducible refine Kd.C_alloc ?_ _) | (with_reducible refine Kd.C_drewN ?_ _) | (with_reducible refine Kd.C_drew ?_)))
          (case side4 => exact (Kd.R_reads' HO231.out).2.1)
          rintro e w150 ⟨rfl, hb⟩
          refine ⟨_, rfl, ?_⟩
          have n0_ := Aside0.mk (Kd.R_below by12 hb)
          have n1_ := Aside0.mk (Kd.R_below by13 hb)
          have n2_ := Aside0.mk (blk_below (g := gb220) (o := .cells #[.int .i64 a0_0, .slice A0_1 l0_1.length c0_1] 24 (0, 0)) by9 hb)
          have n3_ := Aside0.mk (blk_below (g := gb221) (o := .cells #[.int .i64 a1_0, .slice A1_1 l1_1.length c1_1] 24 (0, 0)) by10 hb)
          have n4_ := Aside0.mk (below_step by3 hb)
          clear HO227
          clear HO231
          clear BK220
          clear BK221
          clear HB
          have HO227 := n0_
          have HO231 := n1_
          have BK220 := n2_
          have BK221 := n3_
          have HB := n4_
          clear n0_ n1_ n2_ n3_ n4_
          (try clear hb)
          (try clear hb2)
          (try clear hk)
          (try clear hi)
          refine hK.out _ _ ⟨(blk_cell BK220.out 0).trans rfl, (blk_cell BK220.out 1).trans rfl, (blk_cell BK221.out 0).trans rfl, (blk_cell BK221.out 1).trans rfl⟩ (fun hHeld => ?_)
          clear hK K
          refine norm_ (a' := ?_) ?_ ?_
          rotate_left
          · show Act.put _ (some 24) _ = _
            simp only [Act.put, List.setIfInBounds_toArray, List.set_cons_zero, List.set_cons_succ, i64_w, i32_w]
            rfl
          refine pure_ (i := 5) (N := some 6) (v := ?_) (a' := ?_) #[true, true, true, true, true, true] rfl rfl by8 (fun _ _ _ h => h) (Or.inl ⟨by rfl, ?_⟩) ?_ ?_
          rotate_left
          · intro w'
            go_simp
            with_reducible rfl
          rotate_left
          · simp only [Act.put, List.setIfInBounds_toArray, List.set_cons_zero, List.set_cons_succ, i64_w, i32_w]
            rfl
          refine done_ by8 ?_
          have hcz151_0 : w150.cell? ⟨gb220, 0, none⟩ = some (.int .i64 a0_0) := (blk_cell BK220.out 0).trans rfl
          have hcz151_1 : w150.cell? ⟨gb220, 1, none⟩ = some (.slice A0_1 l0_1.length c0_1) := (blk_cell BK220.out 1).trans rfl
          have hfz151_0 := blk_frozen BK220.out 0
          have hfz151_1 := blk_frozen BK220.out 1
          try go_wp2_with (first | ((with_reducible refine gate_callee (f := 17) rfl ?_); refine goesL_ (some 26) rfl rfl Try.func17 by8 rfl #[.agg #[.int .i64 a0_0, .slice A0_1 l0_1.length c0_1]] rfl by1 ?_; (with_reducible refine (laws_toImage.calls k a0_0 _ _ l0_1 t233 t234 _ ?side1 ?side2 A22.out).mono ?_); (case side1 => repeat (first | exact (Kd.C_below HR0_1.out HB.out) | (with_reducible refine Kd.C_alloc ?_ _) | (with_reducible refine Kd.C_drewN ?_ _) | (with_reducible refine Kd.C_drew ?_))); (case side2 => exact HC0_1.out); rintro e w152 ⟨v235, rfl, ho0, hb⟩; refine ⟨_, rfl, ?_⟩; have n0_ := Aside0.mk (Kd.R_elder' by12 (Kd.R_base ho0) hb); have n1_ := Aside0.mk (Kd.R_elder' by13 (Kd.R_base ho0) hb); have n2_ := Aside0.mk (Kd.R_lower (Kd.R_new' (Kd.R_new' ho0 (Kd.R_lt by12)) (Kd.R_lt by13)) (below_size by3)); have n3_ := Aside0.mk (blk_below (g := gb220) (o := .cells #[.int .i64 a0_0, .slice A0_1 l0_1.length c0_1] 24 (0, 0)) by9 hb); have n4_ := Aside0.mk (blk_below (g := gb221) (o := .cells #[.int .i64 a1_0, .slice A1_1 l1_1.length c1_1] 24 (0, 0)) by10 hb); have n5_ := Aside0.mk (below_step by3 hb); clear HO227; clear HO231; clear BK220; clear BK221; clear HB; have HO227 := n0_; have HO231 := n1_; have HO236 := n2_; have BK220 := n3_; have BK221 := n4_; have HB := n5_; clear n0_ n1_ n2_ n3_ n4_ n5_; (try clear hb); (try clear hb2); (try clear hk); (try clear hi); (try clear ho0)) | ((with_reducible refine gate_dst (N := 7) rfl ?_); refine box_event ?hg (N := 7) ?hd (cs := #[.int .i64 0, .slice none 0 0]) (t := 29) ?hr ?_; (case hd => rfl); (case hg => rfl); (case hr => first | (go_simp; done) | (go_simp; rfl)); intro gb237 hg w153 hbox hb; have n0_ := Aside0.mk (Kd.R_below by12 hb); have n1_ := Aside0.mk (Kd.R_below by13 hb); have n2_ := Aside0.mk (Kd.R_below by20 hb); have n3_ := Aside0.mk (blk_below (g := gb220) (o := .cells #[.int .i64 a0_0, .slice A0_1 l0_1.length c0_1] 24 (0, 0)) by9 hb); have n4_ := Aside0.mk (blk_below (g := gb221) (o := .cells #[.int .i64 a1_0, .slice A1_1 l1_1.length c1_1] 24 (0, 0)) by10 hb); have n5_ := Aside0.mk (below_step by3 hb); have n6_ := Aside0.mk (hbox); have n7_ := Aside0.mk ((by33 : w.heap.size ≤ gb237)); have n8_ := Aside0.mk ((by33 : w.heap.size ≤ gb237)); have n9_ := Aside0.mk ((by15 : gb220 ≠ gb237)); have n10_ := Aside0.mk ((by16 : gb237 ≠ gb220)); have n11_ := Aside0.mk ((by31 : gb221 ≠ gb237)); have n12_ := Aside0.mk ((by32 : gb237 ≠ gb221)); clear HO227; clear HO231; clear HO236; clear BK220; clear BK221; clear HB; have HO227 := n0_; have HO231 := n1_; have HO236 := n2_; have BK220 := n3_; have BK221 := n4_; have HB := n5_; have BK237 := n6_; have GW237 := n7_; have GE237 := n8_; have NB220_237 := n9_; have NB237_220 := n10_; have NB221_237 := n11_; have NB237_221 := n12_; clear n0_ n1_ n2_ n3_ n4_ n5_ n6_ n7_ n8_ n9_ n10_ n11_ n12_; clear hb hbox hg; have hnb154 := NB237_220.out; have hnc154 := NB220_237.out; have hnb155 := NB237_221.out; have hnc155 := NB221_237.out; have hcz156_0 : w153.cell? ⟨gb237, 0, none⟩ = some (.int .i64 0) := (blk_cell BK237.out 0).trans rfl; have hcz156_1 : w153.cell? ⟨gb237, 1, none⟩ = some (.slice none 0 0) := (blk_cell BK237.out 1).trans rfl; have hfz156_0 := blk_frozen BK237.out 0; have hfz156_1 := blk_frozen BK237.out 1; obtain ⟨Ao157, co157, eo157⟩ := Kd.R_slice HO236.out; subst eo157; have hcz158_0 : w153.cell? ⟨gb221, 0, none⟩ = some (.int .i64 a1_0) := (blk_cell BK221.out 0).trans rfl; have hcz158_1 : w153.cell? ⟨gb221, 1, none⟩ = some (.slice A1_1 l1_1.length c1_1) := (blk_cell BK221.out 1).trans rfl; have hfz158_0 := blk_frozen BK221.out 0; have hfz158_1 := blk_frozen BK221.out 1) | ((with_reducible refine gate_callee (f := 17) rfl ?_); refine goesL_ (some 28) rfl rfl Try.func17 by8 rfl #[.agg #[.int .i64 a1_0, .slice A1_1 l1_1.length c1_1]] rfl by1 ?_; (with_reducible refine (laws_toImage.calls k a1_0 _ _ l1_1 t238 t239 _ ?side1 ?side2 A23.out).mono ?_); (case side1 => exact Kd.C_below HR1_1.out by14); (case side2 => exact HC1_1.out); rintro e w159 ⟨v240, rfl, ho0, hb⟩; refine ⟨_, rfl, ?_⟩; have n0_ := Aside0.mk (Kd.R_elder' by82 (Kd.R_base ho0) hb); have n1_ := Aside0.mk (Kd.R_elder' by83 (Kd.R_base ho0) hb); have n2_ := Aside0.mk (Kd.R_elder' by84 (Kd.R_base ho0) hb); have n3_ := Aside0.mk (Kd.R_lower (Kd.R_new' (Kd.R_new' (Kd.R_new' ho0 (Kd.R_lt by82)) (Kd.R_lt by83)) (Kd.R_lt by84)) (below_size by14)); have n4_ := Aside0.mk (blk_below (g := gb220) (o := .cells #[.int .i64 a0_0, .slice A0_1 l0_1.length c0_1] 24 (0, 0)) by40 hb); have n5_ := Aside0.mk (blk_below (g := gb221) (o := .cells #[.int .i64 a1_0, .slice A1_1 l1_1.length c1_1] 24 (0, 0)) by41 hb); have n6_ := Aside0.mk (blk_below (g := gb237) (o := .cells #[.int .i64 t233, .slice Ao157 t234.length co157] 29 (0, 0)) by34 hb); have n7_ := Aside0.mk (below_step by14 hb); clear HO227; clear HO231; clear HO236; clear BK220; clear BK221; clear BK237; clear HB; have HO227 := n0_; have HO231 := n1_; have HO236 := n2_; have HO241 := n3_; have BK220 := n4_; have BK221 := n5_; have BK237 := n6_; have HB := n7_; clear n0_ n1_ n2_ n3_ n4_ n5_ n6_ n7_; (try clear hb); (try clear hb2); (try clear hk); (try clear hi); (try clear ho0)) | ((with_reducible refine gate_dst (N := 8) rfl ?_); refine box_event ?hg (N := 8) ?hd (cs := #[.int .i64 0, .slice none 0 0]) (t := 29) ?hr ?_; (case hd => rfl); (case hg => rfl); (case hr => first | (go_simp; done) | (go_simp; rfl)); intro gb242 hg w160 hbox hb; have n0_ := Aside0.mk (Kd.R_below by12 hb); have n1_ := Aside0.mk (Kd.R_below by13 hb); have n2_ := Aside0.mk (Kd.R_below by20 hb); have n3_ := Aside0.mk (Kd.R_below by28 hb); have n4_ := Aside0.mk (blk_below (g := gb220) (o := .cells #[.int .i64 a0_0, .slice A0_1 l0_1.length c0_1] 24 (0, 0)) by9 hb); have n5_ := Aside0.mk (blk_below (g := gb221) (o := .cells #[.int .i64 a1_0, .slice A1_1 l1_1.length c1_1] 24 (0, 0)) by10 hb); have n6_ := Aside0.mk (blk_below (g := gb237) (o := .cells #[.int .i64 t233, .slice Ao157 t234.length co157] 29 (0, 0)) by37 hb); have n7_ := Aside0.mk (below_step by14 hb); have n8_ := Aside0.mk (hbox); have n9_ := Aside0.mk ((by26 : w.heap.size ≤ gb242)); have n10_ := Aside0.mk ((by26 : w.heap.size ≤ gb242)); have n11_ := Aside0.mk ((by15 : gb220 ≠ gb242)); have n12_ := Aside0.mk ((by16 : gb242 ≠ gb220)); have n13_ := Aside0.mk ((by31 : gb221 ≠ gb242)); have n14_ := Aside0.mk ((by32 : gb242 ≠ gb221)); have n15_ := Aside0.mk ((by rw [hg]; exact Nat.ne_of_lt (blk_lt (g := gb237) (o := .cells #[.int .i64 t233, .slice Ao157 t234.length co157] 29 (0, 0)) by37) : gb237 ≠ gb242)); have n16_ := Aside0.mk ((by rw [hg]; exact Nat.ne_of_gt (blk_lt (g := gb237) (o := .cells #[.int .i64 t233, .slice Ao157 t234.length co157] 29 (0, 0)) by37) : gb242 ≠ gb237)); clear HO227; clear HO231; clear HO236; clear HO241; clear BK220; clear BK221; clear BK237; clear HB; have HO227 := n0_; have HO231 := n1_; have HO236 := n2_; have HO241 := n3_; have BK220 := n4_; have BK221 := n5_; have BK237 := n6_; have HB := n7_; have BK242 := n8_; have GW242 := n9_; have GE242 := n10_; have NB220_242 := n11_; have NB242_220 := n12_; have NB221_242 := n13_; have NB242_221 := n14_; have NB237_242 := n15_; have NB242_237 := n16_; clear n0_ n1_ n2_ n3_ n4_ n5_ n6_ n7_ n8_ n9_ n10_ n11_ n12_ n13_ n14_ n15_ n16_; clear hb hbox hg; have hnb161 := NB242_220.out; have hnc161 := NB220_242.out; have hnb162 := NB242_221.out; have hnc162 := NB221_242.out; have hnb163 := NB242_237.out; have hnc163 := NB237_242.out; have hcz164_0 : w160.cell? ⟨gb242, 0, none⟩ = some (.int .i64 0) := (blk_cell BK242.out 0).trans rfl; have hcz164_1 : w160.cell? ⟨gb242, 1, none⟩ = some (.slice none 0 0) := (blk_cell BK242.out 1).trans rfl; have hfz164_0 := blk_frozen BK242.out 0; have hfz164_1 := blk_frozen BK242.out 1; obtain ⟨Ao165, co165, eo165⟩ := Kd.R_slice HO241.out; subst eo165; have hcz166_0 : w160.cell? ⟨gb237, 0, none⟩ = some (.int .i64 t233) := (blk_cell BK237.out 0).trans rfl; have hcz166_1 : w160.cell? ⟨gb237, 1, none⟩ = some (.slice Ao157 t234.length co157) := (blk_cell BK237.out 1).trans rfl; have hfz166_0 := blk_frozen BK237.out 0; have hfz166_1 := blk_frozen BK237.out 1) | ((with_reducible refine gate_callee (f := 18) rfl ?_); refine goesL_ (some 31) rfl rfl Try.func18 by8 rfl #[.agg #[.int .i64 t233, .slice Ao157 t234.length co157], .agg #[.int .i64 t238, .slice Ao165 t239.length co165]] rfl by1 ?_; (with_reducible refine (impl_SameImage.calls k t233 _ _ t234 t238 _ _ t239 t243 _ ?side1 ?side2 ?side3 ?side4 A24.out).mono ?_); (case side1 => refine (Kd.R_reads' (e := 111) (base := w.heap.size) (ok := fun k_ => (((True ∧ some k_ ≠ (.slice Ao148 t225.length co148 : Value).ownBlock) ∧ some k_ ≠ (.slice Ao149 t229.length co149 : Value).ownBlock) ∧ some k_ ≠ (.slice Ao165 t239.length co165 : Value).ownBlock)) (n := t234.length) (c := co157) ?_).2.2; exact by85); (case side2 => exact (Kd.R_reads' HO236.out).2.1); (case side3 => refine (Kd.R_reads' (e := 111) (base := w.heap.size) (ok := fun k_ => (((True ∧ some k_ ≠ (.slice Ao148 t225.length co148 : Value).ownBlock) ∧ some k_ ≠ (.slice Ao149 t229.length co149 : Value).ownBlock) ∧ some k_ ≠ (.slice Ao157 t234.length co157 : Value).ownBlock)) (n := t239.length) (c := co165) ?_).2.2; exact by86); (case side4 => exact (Kd.R_reads' HO241.out).2.1); rintro e w167 ⟨rfl, hb⟩; refine ⟨_, rfl, ?_⟩; have n0_ := Aside0.mk (Kd.R_below (by (with_reducible repeat (first | apply Kd.R_alloc | apply Kd.R_drewN | apply Kd.R_drew)); exact (Kd.R_mono (Kd.R_far (p := ⟨gb242, 1, none⟩) (Kd.R_far (p := ⟨gb242, 0, none⟩) (Kd.R_types HO227.out BK242.out (by decide)) (fun _ hk => hk.2) (.int .i64 t238)) (fun _ hk => hk.2) (.slice Ao165 t239.length co165)) (fun _ h_ => h_.1))) hb); have n1_ := Aside0.mk (Kd.R_below (by (with_reducible repeat (first | apply Kd.R_alloc | apply Kd.R_drewN | apply Kd.R_drew)); exact (Kd.R_mono (Kd.R_far (p := ⟨gb242, 1, none⟩) (Kd.R_far (p := ⟨gb242, 0, none⟩) (Kd.R_types HO231.out BK242.out (by decide)) (fun _ hk => hk.2) (.int .i64 t238)) (fun _ hk => hk.2) (.slice Ao165 t239.length co165)) (fun _ h_ => h_.1))) hb); have n2_ := Aside0.mk (Kd.R_below by85 hb); have n3_ := Aside0.mk (Kd.R_below by86 hb); have n4_ := Aside0.mk (blk_below (g := gb220) (o := .cells #[.int .i64 a0_0, .slice A0_1 l0_1.length c0_1] 24 (0, 0)) by42 hb); have n5_ := Aside0.mk (blk_below (g := gb221) (o := .cells #[.int .i64 a1_0, .slice A1_1 l1_1.length c1_1] 24 (0, 0)) by43 hb); have n6_ := Aside0.mk (blk_below (g := gb237) (o := .cells #[.int .i64 t233, .slice Ao157 t234.length co157] 29 (0, 0)) by44 hb); have n7_ := Aside0.mk (blk_below (g := gb242) (o := .cells #[.int .i64 t238, .slice Ao165 t239.length co165] 29 (0, 0)) by35 hb); have n8_ := Aside0.mk (below_step by11 hb); clear HO227; clear HO231; clear HO236; clear HO241; clear BK220; clear BK221; clear BK237; clear BK242; clear HB; have HO227 := n0_; have HO231 := n1_; have HO236 := n2_; have HO241 := n3_; have BK220 := n4_; have BK221 := n5_; have BK237 := n6_; have BK242 := n7_; have HB := n8_; clear n0_ n1_ n2_ n3_ n4_ n5_ n6_ n7_ n8_; (try clear hb); (try clear hb2); (try clear hk); (try clear hi)))
          have n0_ := Aside0.mk (Kd.R_drew HO227.out)
          have n1_ := Aside0.mk (Kd.R_drew HO231.out)
          have n2_ := Aside0.mk (Kd.R_drew HO236.out)
          have n3_ := Aside0.mk (Kd.R_drew HO241.out)
          have n4_ := Aside0.mk (blk_drew BK220.out)
          have n5_ := Aside0.mk (blk_drew BK221.out)
          have n6_ := Aside0.mk (blk_drew BK237.out)
          have n7_ := Aside0.mk (blk_drew BK242.out)
          have n8_ := Aside0.mk (below_drew1 HB.out)
          clear HO227
          clear HO231
          clear HO236
          clear HO241
          clear BK220
          clear BK221
          clear BK237
          clear BK242
          clear HB
          have HO227 := n0_
          have HO231 := n1_
          have HO236 := n2_
          have HO241 := n3_
          have BK220 := n4_
          have BK221 := n5_
          have BK237 := n6_
          have BK242 := n7_
          have HB := n8_
          clear n0_ n1_ n2_ n3_ n4_ n5_ n6_ n7_ n8_
          refine start_ (n := 5) (S := fun w' => w'.cell? ⟨gb237, 0, none⟩ = some (.int .i64 t233) ∧ w'.cell? ⟨gb237, 1, none⟩ = some (.slice Ao157 t234.length co157) ∧ w'.cell? ⟨gb220, 0, none⟩ = some (.int .i64 a0_0) ∧ w'.cell? ⟨gb220, 1, none⟩ = some (.slice A0_1 l0_1.length c0_1)) (ds := []) #[false, false, false, false, false] by8 rfl rfl ⟨(blk_cell BK237.out 0).trans rfl, (blk_cell BK237.out 1).trans rfl, (blk_cell BK220.out 0).trans rfl, (blk_cell BK220.out 1).trans rfl⟩ (fun hHeld => ?_)
          generalize w167.drew = w168 at HO227 HO231 HO236 HO241 BK220 BK221 BK237 BK242 HB hHeld ⊢
          refine take_ (i := 0) (N := some 35) (v := ?_) (a' := ?_) #[true, false, false, false, false] rfl rfl by8 (fun _ _ _ h => h) (Or.inl ⟨by rfl, ?_⟩) hHeld ?_ ?_
          rotate_left
          · rintro w' ⟨s0, s1, s2, s3⟩
            go_simp
            with_reducible rfl
          rotate_left
          · simp only [Act.put, List.setIfInBounds_toArray, List.set_cons_zero, List.set_cons_succ, i64_w, i32_w]
            rfl
          refine take_ (i := 1) (N := some 36) (v := ?_) (a' := ?_) #[true, true, false, false, false] rfl rfl by8 (fun _ _ _ h => h) (Or.inl ⟨by rfl, ?_⟩) hHeld ?_ ?_
          rotate_left
          · rintro w' ⟨s0, s1, s2, s3⟩
            go_simp
            with_reducible rfl
          rotate_left
          · simp only [Act.put, List.setIfInBounds_toArray, List.set_cons_zero, List.set_cons_succ, i64_w, i32_w]
            rfl
          refine one_ (i := 2) (N := some 37) #[true, true, true, false, false] rfl rfl by8 (by decide) (fun K hK => ?_)
          refine goes_ Try.func17 by8 rfl #[.agg #[.int .i64 a0_0, .slice A0_1 l0_1.length c0_1]] (by rfl) rfl rfl by1 ?_
          with_reducible refine (laws_toImage.calls k a0_0 _ _ l0_1 t244 t245 _ ?side1 ?side2 A56.out).mono ?_
          (case side1 => repeat (first | exact (Kd.C_below HR0_1.out HB.out) | (with_reducible refine Kd.C_alloc ?_ _) | (with_reducible refine Kd.C_drewN ?_ _) | (with_reducible refine Kd.C_drew ?_)))
          (case side2 => exact HC0_1.out)
          rintro e w169 ⟨v246, rfl, ho0, hb⟩
          refine ⟨_, rfl, ?_⟩
          have n0_ := Aside0.mk (Kd.R_elder' by12 (Kd.R_base ho0) hb)
          have n1_ := Aside0.mk (Kd.R_elder' by13 (Kd.R_base ho0) hb)
          have n2_ := Aside0.mk (Kd.R_elder' by20 (Kd.R_base ho0) hb)
          have n3_ := Aside0.mk (Kd.R_elder' by28 (Kd.R_base ho0) hb)
          have n4_ := Aside0.mk (Kd.R_lower (Kd.R_new' (Kd.R_new' (Kd.R_new' (Kd.R_new' ho0 (Kd.R_lt by12)) (Kd.R_lt by13)) (Kd.R_lt by20)) (Kd.R_lt by28)) (below_size by11))
          have n5_ := Aside0.mk (blk_below (g := gb220) (o := .cells #[.int .i64 a0_0, .slice A0_1 l0_1.length c0_1] 24 (0, 0)) by9 hb)
          have n6_ := Aside0.mk (blk_below (g := gb221) (o := .cells #[.int .i64 a1_0, .slice A1_1 l1_1.length c1_1] 24 (0, 0)) by10 hb)
          have n7_ := Aside0.mk (blk_below (g := gb237) (o := .cells #[.int .i64 t233, .slice Ao157 t234.length co157] 29 (0, 0)) by37 hb)
          have n8_ := Aside0.mk (blk_below (g := gb242) (o := .cells #[.int .i64 t238, .slice Ao165 t239.length co165] 29 (0, 0)) by56 hb)
          have n9_ := Aside0.mk (below_step by11 hb)
          clear HO227
          clear HO231
          clear HO236
          clear HO241
          clear BK220
          clear BK221
          clear BK237
          clear BK242
          clear HB
          have HO227 := n0_
          have HO231 := n1_
          have HO236 := n2_
          have HO241 := n3_
          have HO247 := n4_
          have BK220 := n5_
          have BK221 := n6_
          have BK237 := n7_
          have BK242 := n8_
          have HB := n9_
          clear n0_ n1_ n2_ n3_ n4_ n5_ n6_ n7_ n8_ n9_
          (try clear hb)
          (try clear hb2)
          (try clear hk)
          (try clear hi)
          (try clear ho0)
          obtain ⟨Ao170, co170, eo170⟩ := Kd.R_slice HO247.out
          (first | subst eo170 | (injection eo170 with f1_ f2_ f3_; have f4_ := f1_.symm; have f5_ := f3_.symm; clear f1_ f2_ f3_; subst f4_; subst f5_))
          refine hK.out _ _ ⟨(blk_cell BK237.out 0).trans rfl, (blk_cell BK237.out 1).trans rfl, (blk_cell BK220.out 0).trans rfl, (blk_cell BK220.out 1).trans rfl⟩ (fun hHeld => ?_)
          clear hK K
          refine norm_ (a' := ?_) ?_ ?_
          rotate_left
          · show Act.put _ (some 37) _ = _
            simp only [Act.put, List.setIfInBounds_toArray, List.set_cons_zero, List.set_cons_succ, i64_w, i32_w]
            rfl
          refine one_ (i := 3) (N := some 38) #[true, true, true, true, false] rfl rfl by8 (by decide) (fun K hK => ?_)
          refine goes_ Try.func19 by8 rfl #[.agg #[.int .i64 t233, .slice Ao157 t234.length co157], .agg #[.int .i64 t244, .slice Ao170 t245.length co170]] (by rfl) rfl rfl by1 ?_
          with_reducible refine (laws_eqImage.calls k t233 _ _ t234 t244 _ _ t245 false _ ?side1 ?side2 ?side3 ?side4 A57.out).mono ?_
          (case side1 => repeat (first | exact (Kd.R_reads' HO236.out).2.2 | (with_reducible refine Kd.C_alloc ?_ _) | (with_reducible refine Kd.C_drewN ?_ _) | (with_reducible refine Kd.C_drew ?_)))
          (case side2 => exact (Kd.R_reads' HO236.out).2.1)
          (case side3 => repeat (first | exact (Kd.R_reads' HO247.out).2.2 | (with_reducible refine Kd.C_alloc ?_ _) | (with_reducible refine Kd.C_drewN ?_ _) | (with_reducible refine Kd.C_drew ?_)))
          (case side4 => exact (Kd.R_reads' HO247.out).2.1)
          rintro e w171 ⟨rfl, hb⟩
          refine ⟨_, rfl, ?_⟩
          have n0_ := Aside0.mk (Kd.R_below by12 hb)
          have n1_ := Aside0.mk (Kd.R_below by13 hb)
          have n2_ := Aside0.mk (Kd.R_below by20 hb)
          have n3_ := Aside0.mk (Kd.R_below by28 hb)
          have n4_ := Aside0.mk (Kd.R_below by63 hb)
          have n5_ := Aside0.mk (blk_below (g := gb220) (o := .cells #[.int .i64 a0_0, .slice A0_1 l0_1.length c0_1] 24 (0, 0)) by9 hb)
          have n6_ := Aside0.mk (blk_below (g := gb221) (o := .cells #[.int .i64 a1_0, .slice A1_1 l1_1.length c1_1] 24 (0, 0)) by10 hb)
          have n7_ := Aside0.mk (blk_below (g := gb237) (o := .cells #[.int .i64 t233, .slice Ao157 t234.length co157] 29 (0, 0)) by37 hb)
          have n8_ := Aside0.mk (blk_below (g := gb242) (o := .cells #[.int .i64 t238, .slice Ao165 t239.length co165] 29 (0, 0)) by56 hb)
          have n9_ := Aside0.mk (below_step by11 hb)
          clear HO227
          clear HO231
          clear HO236
          clear HO241
          clear HO247
          clear BK220
          clear BK221
          clear BK237
          clear BK242
          clear HB
          have HO227 := n0_
          have HO231 := n1_
          have HO236 := n2_
          have HO241 := n3_
          have HO247 := n4_
          have BK220 := n5_
          have BK221 := n6_
          have BK237 := n7_
          have BK242 := n8_
          have HB := n9_
          clear n0_ n1_ n2_ n3_ n4_ n5_ n6_ n7_ n8_ n9_
          (try clear hb)
          (try clear hb2)
          (try clear hk)
          (try clear hi)
          refine hK.out _ _ ⟨(blk_cell BK237.out 0).trans rfl, (blk_cell BK237.out 1).trans rfl, (blk_cell BK220.out 0).trans rfl, (blk_cell BK220.out 1).trans rfl⟩ (fun hHeld => ?_)
          clear hK K
          refine norm_ (a' := ?_) ?_ ?_
          rotate_left
          · show Act.put _ (some 38) _ = _
            simp only [Act.put, List.setIfInBounds_toArray, List.set_cons_zero, List.set_cons_succ, i64_w, i32_w]
            rfl
          refine pure_ (i := 4) (N := some 39) (v := ?_) (a' := ?_) #[true, true, true, true, true] rfl rfl by8 (fun _ _ _ h => h) (Or.inl ⟨by rfl, ?_⟩) ?_ ?_
          rotate_left
          · intro w'
            go_simp
            with_reducible rfl
          rotate_left
          · simp only [Act.put, List.setIfInBounds_toArray, List.set_cons_zero, List.set_cons_succ, i64_w, i32_w]
            rfl
          refine done_ by8 ?_
          try go_wp2
          go_ret
          exact ⟨by first | rfl | (simp [errW_none, errW_some] <;> rfl) | (simp [*, errW_none, errW_some] <;> rfl), by repeat (first | (with_reducible first | exact HB.out | apply below_alloc | apply pw_below_drewN | apply below_drew1 | refine below_set ?_ GE220.out | refine below_set ?_ GE221.out | refine below_set ?_ GE237.out | refine below_set ?_ GE242.out) | exact HB.out)⟩

def ok149 (x : S149) : Prop := ((Lit.int .i64 x.f0).wf = true) ∧ ((Lit.int .i64 x.f1).wf = true) ∧ ((Lit.int .i64 x.f2).wf = true) ∧ (x.f3.size ≤ 9223372036854775807)
def ok24 (x : S24) : Prop := ((Lit.int .i64 x.f0).wf = true) ∧ ((x.f1.length ≤ 9223372036854775807 ∧ ∀ y ∈ x.f1, ok149 y))
/-- THE ONE PURE STATEMENT of laws_FnExactSameImage: yours. -/
def laws_FnExactSameImage.Pure : Prop := ∀ (x0 : S24) (x1 : S24), ok24 x0 → ok24 x1 → ∃ k, laws_FnExactSameImage.f k x0.f0 x0.f1 x1.f0 x1.f1 = some true
theorem laws_FnExactSameImage.walk (P : laws_FnExactSameImage.Pure) (x0 : S24) (A0_1 : Option Addr) (c0_1 : Nat) (x1 : S24) (A1_1 : Option Addr) (c1_1 : Nat) (w : World) (okx0 : ok24 x0) (hr0_1 : Kd.C k149 w A0_1 x0.f1.length x0.f1) (hc0_1 : x0.f1.length ≤ c0_1) (okx1 : ok24 x1) (hr1_1 : Kd.C k149 w A1_1 x1.f1.length x1.f1) (hc1_1 : x1.f1.length ≤ c1_1) :
    Calls Try.prog 3 #[.agg #[.int .i64 x0.f0, .slice A0_1 x0.f1.length c0_1], .agg #[.int .i64 x1.f0, .slice A1_1 x1.f1.length c1_1]] w fun e w' => e = .returned (.bool true) ∧ Below w.heap.size w w' := by
  obtain ⟨k, h⟩ := P x0 x1 okx0 okx1
  refine (laws_FnExactSameImage.calls k x0.f0 A0_1 c0_1 x0.f1 x1.f0 A1_1 c1_1 x1.f1 true w hr0_1 hc0_1 hr1_1 hc1_1 h).mono ?_
  rintro e w' ⟨rfl, hd⟩
  exact ⟨rfl, hd⟩

end Go.Proofs.Ytigoabhkdipdeaa.PFnExactSameImage
