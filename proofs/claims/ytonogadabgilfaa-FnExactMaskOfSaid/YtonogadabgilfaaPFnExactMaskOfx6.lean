/- Laid by a program of this session (patch_print.py) out of the translation: plain functions and what the calls do. No condition. -/
import Derived.Test.YtonogadabgilfaaPFnExactMaskOfx0
import Derived.Test.YtonogadabgilfaaPFnExactMaskOfx2
import Derived.Test.YtonogadabgilfaaPFnExactMaskOfx4
import Derived.Test.YtonogadabgilfaaPFnExactMaskOfx5
namespace Go.Proofs.Ytonogadabgilfaa.PFnExactMaskOf
open Go.RowKit Go.Proofs.YtonogadabgilfaaW.PrintWords Go.Proofs.YtonogadabgilfaaW.PrintLast Go.Proofs.YtonogadabgilfaaW.PrintMore
attribute [local go_sem] max2_int min2_int max_two min_two max_three min_three max_four min_four   -- for this text's walks alone
set_option linter.unusedVariables false
set_option linter.unusedSimpArgs false

/-! ### spec_l05OK: function 50 -/
mutual
def spec_l05OK.j0 : Nat → Bool → Int → Int → Int → Int → Int → Int → Int → Int → Int → Int → Int → Int → Int → Int → Int → Int → Int → Int → Int → Option (Bool)
 | 0, _, _, _, _, _, _, _, _, _, _, _, _, _, _, _, _, _, _, _, _ => none
 | k + 1, x23, x144000, x144001, x144002, x144003, x144004, x144005, x144006, x144007, x144008, x144009, x144010, x144011, x144012, x144013, x144014, x144015, x144016, x144017, x144018 => if x23 = true then (some false) else (if x144000 = 26 then (spec_l05OK.j1 k false x144000 x144001 x144002 x144003 x144004 x144005 x144006 x144007 x144008 x144009 x144010 x144011 x144012 x144013 x144014 x144015 x144016 x144017 x144018) else (if x144000 = 27 then (spec_l05OK.j1 k false x144000 x144001 x144002 x144003 x144004 x144005 x144006 x144007 x144008 x144009 x144010 x144011 x144012 x144013 x144014 x144015 x144016 x144017 x144018) else (spec_l05OK.j1 k (x144003 != 0) x144000 x144001 x144002 x144003 x144004 x144005 x144006 x144007 x144008 x144009 x144010 x144011 x144012 x144013 x144014 x144015 x144016 x144017 x144018)))
def spec_l05OK.j1 : Nat → Bool → Int → Int → Int → Int → Int → Int → Int → Int → Int → Int → Int → Int → Int → Int → Int → Int → Int → Int → Int → Option (Bool)
 | 0, _, _, _, _, _, _, _, _, _, _, _, _, _, _, _, _, _, _, _, _ => none
 | k + 1, x36, x144000, x144001, x144002, x144003, x144004, x144005, x144006, x144007, x144008, x144009, x144010, x144011, x144012, x144013, x144014, x144015, x144016, x144017, x144018 => if x36 = true then (some false) else (if x144000 = 33 then ((spec_l01In.f x144002 0 15).bind fun t147 => (spec_l05OK.j2 k (!t147) x144000 x144001 x144002 x144003 x144004 x144005 x144006 x144007 x144008 x144009 x144010 x144011 x144012 x144013 x144014 x144015 x144016 x144017 x144018)) else (if x144000 = 35 then ((spec_l01In.f x144002 0 15).bind fun t148 => (spec_l05OK.j2 k (!t148) x144000 x144001 x144002 x144003 x144004 x144005 x144006 x144007 x144008 x144009 x144010 x144011 x144012 x144013 x144014 x144015 x144016 x144017 x144018)) else (if x144000 = 36 then ((spec_l01In.f x144002 0 15).bind fun t149 => (spec_l05OK.j2 k (!t149) x144000 x144001 x144002 x144003 x144004 x144005 x144006 x144007 x144008 x144009 x144010 x144011 x144012 x144013 x144014 x144015 x144016 x144017 x144018)) else (if x144002 = 0 then ((spec_l01In.f x144002 0 15).bind fun t150 => (spec_l05OK.j2 k (!t150) x144000 x144001 x144002 x144003 x144004 x144005 x144006 x144007 x144008 x144009 x144010 x144011 x144012 x144013 x144014 x144015 x144016 x144017 x144018)) else (spec_l05OK.j2 k true x144000 x144001 x144002 x144003 x144004 x144005 x144006 x144007 x144008 x144009 x144010 x144011 x144012 x144013 x144014 x144015 x144016 x144017 x144018)))))
def spec_l05OK.j2 : Nat → Bool → Int → Int → Int → Int → Int → Int → Int → Int → Int → Int → Int → Int → Int → Int → Int → Int → Int → Int → Int → Option (Bool)
 | 0, _, _, _, _, _, _, _, _, _, _, _, _, _, _, _, _, _, _, _, _ => none
 | k + 1, x60, x144000, x144001, x144002, x144003, x144004, x144005, x144006, x144007, x144008, x144009, x144010, x144011, x144012, x144013, x144014, x144015, x144016, x144017, x144018 => if x60 = true then (some false) else ((spec_l05Sizes.f x144000 x144001 x144002 x144003 x144004 x144005 x144006 x144007 x144008 x144009 x144010 x144011 x144012 x144013 x144014 x144015 x144016 x144017 x144018).bind fun bt151 => ((spec_l04Operand.f x144004 x144005 x144006 x144007 x144008 x144009 x144010 bt151.1).bind fun t153 => (if t153 = true then ((spec_l04Operand.f x144011 x144012 x144013 x144014 x144015 x144016 x144017 bt151.2).bind fun t154 => (spec_l05OK.j3 k bt151.1 bt151.2 (!t154) x144000 x144001 x144002 x144003 x144004 x144005 x144006 x144007 x144008 x144009 x144010 x144011 x144012 x144013 x144014 x144015 x144016 x144017 x144018)) else (spec_l05OK.j3 k bt151.1 bt151.2 true x144000 x144001 x144002 x144003 x144004 x144005 x144006 x144007 x144008 x144009 x144010 x144011 x144012 x144013 x144014 x144015 x144016 x144017 x144018))))
def spec_l05OK.j3 : Nat → Int → Int → Bool → Int → Int → Int → Int → Int → Int → Int → Int → Int → Int → Int → Int → Int → Int → Int → Int → Int → Int → Int → Option (Bool)
 | 0, _, _, _, _, _, _, _, _, _, _, _, _, _, _, _, _, _, _, _, _, _, _ => none
 | k + 1, x3, x4, x77, x144000, x144001, x144002, x144003, x144004, x144005, x144006, x144007, x144008, x144009, x144010, x144011, x144012, x144013, x144014, x144015, x144016, x144017, x144018 => if x77 = true then (some false) else ((spec_l05Rex.f x144004 x144005 x144006 x144007 x144008 x144009 x144010 x3).bind fun bt155 => ((spec_l05Rex.f x144011 x144012 x144013 x144014 x144015 x144016 x144017 x4).bind fun bt157 => (if bt155.2 = true then (if bt155.1 = true then (some false) else (if bt157.1 = true then (some false) else (if x144001 = 8 then ((spec_l05Wide.f x144000).bind fun t159 => (some t159)) else (some true)))) else (if bt157.2 = true then (if bt155.1 = true then (some false) else (if bt157.1 = true then (some false) else (if x144001 = 8 then ((spec_l05Wide.f x144000).bind fun t160 => (some t160)) else (some true)))) else (some true)))))
end
def spec_l05OK.f (k : Nat) (a0_0 : Int) (a0_1 : Int) (a0_2 : Int) (a0_3 : Int) (a0_4 : Int) (a0_5 : Int) (a0_6 : Int) (a0_7 : Int) (a0_8 : Int) (a0_9 : Int) (a0_10 : Int) (a0_11 : Int) (a0_12 : Int) (a0_13 : Int) (a0_14 : Int) (a0_15 : Int) (a0_16 : Int) (a0_17 : Int) (a0_18 : Int) : Option (Bool) := (spec_l03Op.f a0_0).bind fun t144 => (if t144 = true then ((spec_l01In.f a0_18 0 15).bind fun t145 => (if t145 = true then ((spec_l05Shape.f a0_0 a0_1 a0_2 a0_3 a0_4 a0_5 a0_6 a0_7 a0_8 a0_9 a0_10 a0_11 a0_12 a0_13 a0_14 a0_15 a0_16 a0_17 a0_18).bind fun t146 => (spec_l05OK.j0 k (!t146) a0_0 a0_1 a0_2 a0_3 a0_4 a0_5 a0_6 a0_7 a0_8 a0_9 a0_10 a0_11 a0_12 a0_13 a0_14 a0_15 a0_16 a0_17 a0_18)) else (spec_l05OK.j0 k true a0_0 a0_1 a0_2 a0_3 a0_4 a0_5 a0_6 a0_7 a0_8 a0_9 a0_10 a0_11 a0_12 a0_13 a0_14 a0_15 a0_16 a0_17 a0_18))) else (spec_l05OK.j0 k true a0_0 a0_1 a0_2 a0_3 a0_4 a0_5 a0_6 a0_7 a0_8 a0_9 a0_10 a0_11 a0_12 a0_13 a0_14 a0_15 a0_16 a0_17 a0_18))
theorem spec_l05OK.mono_l : ∀ k, (∀ y0 y1 y2 y3 y4 y5 y6 y7 y8 y9 y10 y11 y12 y13 y14 y15 y16 y17 y18 y19, LeO (spec_l05OK.j0 k y0 y1 y2 y3 y4 y5 y6 y7 y8 y9 y10 y11 y12 y13 y14 y15 y16 y17 y18 y19) (spec_l05OK.j0 (k + 1) y0 y1 y2 y3 y4 y5 y6 y7 y8 y9 y10 y11 y12 y13 y14 y15 y16 y17 y18 y19)) ∧ (∀ y0 y1 y2 y3 y4 y5 y6 y7 y8 y9 y10 y11 y12 y13 y14 y15 y16 y17 y18 y19, LeO (spec_l05OK.j1 k y0 y1 y2 y3 y4 y5 y6 y7 y8 y9 y10 y11 y12 y13 y14 y15 y16 y17 y18 y19) (spec_l05OK.j1 (k + 1) y0 y1 y2 y3 y4 y5 y6 y7 y8 y9 y10 y11 y12 y13 y14 y15 y16 y17 y18 y19)) ∧ (∀ y0 y1 y2 y3 y4 y5 y6 y7 y8 y9 y10 y11 y12 y13 y14 y15 y16 y17 y18 y19, LeO (spec_l05OK.j2 k y0 y1 y2 y3 y4 y5 y6 y7 y8 y9 y10 y11 y12 y13 y14 y15 y16 y17 y18 y19) (spec_l05OK.j2 (k + 1) y0 y1 y2 y3 y4 y5 y6 y7 y8 y9 y10 y11 y12 y13 y14 y15 y16 y17 y18 y19)) ∧ (∀ y0 y1 y2 y3 y4 y5 y6 y7 y8 y9 y10 y11 y12 y13 y14 y15 y16 y17 y18 y19 y20 y21, LeO (spec_l05OK.j3 k y0 y1 y2 y3 y4 y5 y6 y7 y8 y9 y10 y11 y12 y13 y14 y15 y16 y17 y18 y19 y20 y21) (spec_l05OK.j3 (k + 1) y0 y1 y2 y3 y4 y5 y6 y7 y8 y9 y10 y11 y12 y13 y14 y15 y16 y17 y18 y19 y20 y21))
 | 0 => ⟨fun _ _ _ _ _ _ _ _ _ _ _ _ _ _ _ _ _ _ _ _ r h => by simp [spec_l05OK.j0] at h, fun _ _ _ _ _ _ _ _ _ _ _ _ _ _ _ _ _ _ _ _ r h => by simp [spec_l05OK.j1] at h, fun _ _ _ _ _ _ _ _ _ _ _ _ _ _ _ _ _ _ _ _ r h => by simp [spec_l05OK.j2] at h, fun _ _ _ _ _ _ _ _ _ _ _ _ _ _ _ _ _ _ _ _ _ _ r h => by simp [spec_l05OK.j3] at h⟩
 | k + 1 => by
  obtain ⟨ih0, ih1, ih2, ih3⟩ := spec_l05OK.mono_l k
  refine ⟨?_, ?_, ?_, ?_⟩
  ·intro y0 y1 y2 y3 y4 y5 y6 y7 y8 y9 y10 y11 y12 y13 y14 y15 y16 y17 y18 y19
   unfold spec_l05OK.j0
   repeat' first
   | (with_reducible exact ih0 _ _ _ _ _ _ _ _ _ _ _ _ _ _ _ _ _ _ _ _)
   | (with_reducible exact ih1 _ _ _ _ _ _ _ _ _ _ _ _ _ _ _ _ _ _ _ _)
   | (with_reducible exact ih2 _ _ _ _ _ _ _ _ _ _ _ _ _ _ _ _ _ _ _ _)
   | (with_reducible exact ih3 _ _ _ _ _ _ _ _ _ _ _ _ _ _ _ _ _ _ _ _ _ _)
   | (with_reducible exact LeO.refl _)
   | (with_reducible exact LeO.none _)
   | (with_reducible refine LeO.ite ?_ ?_)
   | (with_reducible refine LeO.bind ?_ (fun _ => ?_))
   | refine LeO.ite ?_ ?_
   | refine LeO.bind ?_ (fun _ => ?_)
  ·intro y0 y1 y2 y3 y4 y5 y6 y7 y8 y9 y10 y11 y12 y13 y14 y15 y16 y17 y18 y19
   unfold spec_l05OK.j1
   repeat' first
   | (with_reducible exact ih0 _ _ _ _ _ _ _ _ _ _ _ _ _ _ _ _ _ _ _ _)
   | (with_reducible exact ih1 _ _ _ _ _ _ _ _ _ _ _ _ _ _ _ _ _ _ _ _)
   | (with_reducible exact ih2 _ _ _ _ _ _ _ _ _ _ _ _ _ _ _ _ _ _ _ _)
   | (with_reducible exact ih3 _ _ _ _ _ _ _ _ _ _ _ _ _ _ _ _ _ _ _ _ _ _)
   | (with_reducible exact LeO.refl _)
   | (with_reducible exact LeO.none _)
   | (with_reducible refine LeO.ite ?_ ?_)
   | (with_reducible refine LeO.bind ?_ (fun _ => ?_))
   | refine LeO.ite ?_ ?_
   | refine LeO.bind ?_ (fun _ => ?_)
  ·intro y0 y1 y2 y3 y4 y5 y6 y7 y8 y9 y10 y11 y12 y13 y14 y15 y16 y17 y18 y19
   unfold spec_l05OK.j2
   repeat' first
   | (with_reducible exact ih0 _ _ _ _ _ _ _ _ _ _ _ _ _ _ _ _ _ _ _ _)
   | (with_reducible exact ih1 _ _ _ _ _ _ _ _ _ _ _ _ _ _ _ _ _ _ _ _)
   | (with_reducible exact ih2 _ _ _ _ _ _ _ _ _ _ _ _ _ _ _ _ _ _ _ _)
   | (with_reducible exact ih3 _ _ _ _ _ _ _ _ _ _ _ _ _ _ _ _ _ _ _ _ _ _)
   | (with_reducible exact LeO.refl _)
   | (with_reducible exact LeO.none _)
   | (with_reducible refine LeO.ite ?_ ?_)
   | (with_reducible refine LeO.bind ?_ (fun _ => ?_))
   | refine LeO.ite ?_ ?_
   | refine LeO.bind ?_ (fun _ => ?_)
  ·intro y0 y1 y2 y3 y4 y5 y6 y7 y8 y9 y10 y11 y12 y13 y14 y15 y16 y17 y18 y19 y20 y21
   unfold spec_l05OK.j3
   repeat' first
   | (with_reducible exact ih0 _ _ _ _ _ _ _ _ _ _ _ _ _ _ _ _ _ _ _ _)
   | (with_reducible exact ih1 _ _ _ _ _ _ _ _ _ _ _ _ _ _ _ _ _ _ _ _)
   | (with_reducible exact ih2 _ _ _ _ _ _ _ _ _ _ _ _ _ _ _ _ _ _ _ _)
   | (with_reducible exact ih3 _ _ _ _ _ _ _ _ _ _ _ _ _ _ _ _ _ _ _ _ _ _)
   | (with_reducible exact LeO.refl _)
   | (with_reducible exact LeO.none _)
   | (with_reducible refine LeO.ite ?_ ?_)
   | (with_reducible refine LeO.bind ?_ (fun _ => ?_))
   | refine LeO.ite ?_ ?_
   | refine LeO.bind ?_ (fun _ => ?_)
theorem spec_l05OK.mono : ∀ a0 a1 a2 a3 a4 a5 a6 a7 a8 a9 a10 a11 a12 a13 a14 a15 a16 a17 a18 k, LeO (spec_l05OK.f k a0 a1 a2 a3 a4 a5 a6 a7 a8 a9 a10 a11 a12 a13 a14 a15 a16 a17 a18) (spec_l05OK.f (k + 1) a0 a1 a2 a3 a4 a5 a6 a7 a8 a9 a10 a11 a12 a13 a14 a15 a16 a17 a18) := by
 intro a0 a1 a2 a3 a4 a5 a6 a7 a8 a9 a10 a11 a12 a13 a14 a15 a16 a17 a18 k
 obtain ⟨ih0, ih1, ih2, ih3⟩ := spec_l05OK.mono_l k
 unfold spec_l05OK.f
 repeat' first
   | (with_reducible exact ih0 _ _ _ _ _ _ _ _ _ _ _ _ _ _ _ _ _ _ _ _)
   | (with_reducible exact ih1 _ _ _ _ _ _ _ _ _ _ _ _ _ _ _ _ _ _ _ _)
   | (with_reducible exact ih2 _ _ _ _ _ _ _ _ _ _ _ _ _ _ _ _ _ _ _ _)
   | (with_reducible exact ih3 _ _ _ _ _ _ _ _ _ _ _ _ _ _ _ _ _ _ _ _ _ _)
   | (with_reducible exact LeO.refl _)
   | (with_reducible exact LeO.none _)
   | (with_reducible refine LeO.ite ?_ ?_)
   | (with_reducible refine LeO.bind ?_ (fun _ => ?_))
   | refine LeO.ite ?_ ?_
   | refine LeO.bind ?_ (fun _ => ?_)
theorem spec_l05OK.e0 {p : Prop} (h : p := by
 obtain rfl := Option.some.inj H
 go_wp2_with (first | ((with_reducible refine gate_dst (N := 20) rfl ?_); (try refine gate_guard (by rfl) ?_); refine ldw 30 (.tmp 1) rfl rfl rfl by6 Try.underlying30 rfl by5 ?_) | ((with_reducible refine gate_dst (N := 62) rfl ?_); (try refine gate_guard (by rfl) ?_); refine ldw 30 (.tmp 1) rfl rfl rfl by6 Try.underlying30 rfl by5 ?_))
 go_ret
 exact ⟨by first | rfl | (simp [errW_none, errW_some] <;> rfl) | (simp [*, errW_none, errW_some] <;> rfl), by repeat (first | (with_reducible first | exact HB.out | apply below_alloc | apply pw_below_drewN | apply below_drew1 | refine below_set ?_ GE143.out) | exact HB.out)⟩) : p := h
set_option maxHeartbeats 8000000 in
set_option maxRecDepth 100000 in
theorem spec_l05OK.calls (k : Nat) (a0_0 : Int) (a0_1 : Int) (a0_2 : Int) (a0_3 : Int) (a0_4 : Int) (a0_5 : Int) (a0_6 : Int) (a0_7 : Int) (a0_8 : Int) (a0_9 : Int) (a0_10 : Int) (a0_11 : Int) (a0_12 : Int) (a0_13 : Int) (a0_14 : Int) (a0_15 : Int) (a0_16 : Int) (a0_17 : Int) (a0_18 : Int) (r : Bool) (w : World) (h : spec_l05OK.f k a0_0 a0_1 a0_2 a0_3 a0_4 a0_5 a0_6 a0_7 a0_8 a0_9 a0_10 a0_11 a0_12 a0_13 a0_14 a0_15 a0_16 a0_17 a0_18 = some r) :
  Calls Try.prog 50 #[.agg #[.int .i64 a0_0, .int .i64 a0_1, .int .i64 a0_2, .int .i64 a0_3, .int .i64 a0_4, .int .i64 a0_5, .int .i64 a0_6, .int .i64 a0_7, .int .i64 a0_8, .int .i64 a0_9, .int .i64 a0_10, .int .i64 a0_11, .int .i64 a0_12, .int .i64 a0_13, .int .i64 a0_14, .int .i64 a0_15, .int .i64 a0_16, .int .i64 a0_17, .int .i64 a0_18]] w fun e w' => e = .returned (.bool r) ∧ Below w.heap.size w w' := by
 have hu30 := Try.underlying30
 have hu28 := Try.underlying28
 have HB := Aside0.mk (Below.refl w.heap.size w)
 have H : ((spec_l03Op.f a0_0).bind fun t144 => (if t144 = true then ((spec_l01In.f a0_18 0 15).bind fun t145 => (if t145 = true then ((spec_l05Shape.f a0_0 a0_1 a0_2 a0_3 a0_4 a0_5 a0_6 a0_7 a0_8 a0_9 a0_10 a0_11 a0_12 a0_13 a0_14 a0_15 a0_16 a0_17 a0_18).bind fun t146 => (spec_l05OK.j0 k (!t146) a0_0 a0_1 a0_2 a0_3 a0_4 a0_5 a0_6 a0_7 a0_8 a0_9 a0_10 a0_11 a0_12 a0_13 a0_14 a0_15 a0_16 a0_17 a0_18)) else (spec_l05OK.j0 k true a0_0 a0_1 a0_2 a0_3 a0_4 a0_5 a0_6 a0_7 a0_8 a0_9 a0_10 a0_11 a0_12 a0_13 a0_14 a0_15 a0_16 a0_17 a0_18))) else (spec_l05OK.j0 k true a0_0 a0_1 a0_2 a0_3 a0_4 a0_5 a0_6 a0_7 a0_8 a0_9 a0_10 a0_11 a0_12 a0_13 a0_14 a0_15 a0_16 a0_17 a0_18))) = some r := h
 clear h
 have HC2 := Aside0.mk H
 clear H
 go_enter Try.func50, Try.ntmps50
 go_upto_region 1 with (first | ((with_reducible refine gate_dst (N := 20) rfl ?_); (try refine gate_guard (by rfl) ?_); refine ldw 30 (.tmp 1) rfl rfl rfl by6 Try.underlying30 rfl by5 ?_) | ((with_reducible refine gate_dst (N := 62) rfl ?_); (try refine gate_guard (by rfl) ?_); refine ldw 30 (.tmp 1) rfl rfl rfl by6 Try.underlying30 rfl by5 ?_) | ((with_reducible refine gate_dst (N := 1) rfl ?_); refine box_event ?hg (N := 1) ?hd (cs := #[.int .i64 a0_0, .int .i64 a0_1, .int .i64 a0_2, .int .i64 a0_3, .int .i64 a0_4, .int .i64 a0_5, .int .i64 a0_6, .int .i64 a0_7, .int .i64 a0_8, .int .i64 a0_9, .int .i64 a0_10, .int .i64 a0_11, .int .i64 a0_12, .int .i64 a0_13, .int .i64 a0_14, .int .i64 a0_15, .int .i64 a0_16, .int .i64 a0_17, .int .i64 a0_18]) (t := 30) ?hr ?_; (case hd => rfl); (case hg => rfl); (case hr => first | (go_simp; done) | (go_simp; rfl)); intro gb143 hg w3 hbox hb; have n0_ := Aside0.mk (below_step by1 hb); have n1_ := Aside0.mk (hbox); have n2_ := Aside0.mk ((by0 : w.heap.size ≤ gb143)); have n3_ := Aside0.mk ((by0 : w.heap.size ≤ gb143)); clear HB; have HB := n0_; have BK143 := n1_; have GW143 := n2_; have GE143 := n3_; clear n0_ n1_ n2_ n3_; clear hb hbox hg))
 (try simp only [Act.put, List.setIfInBounds_toArray, List.set_cons_zero, List.set_cons_succ])
 go_cut [23] (fun v23 wc => ∃ (kq : Nat) (x23_1 : Bool), v23 = .bool x23_1 ∧ Aside0 (spec_l05OK.j0 kq x23_1 a0_0 a0_1 a0_2 a0_3 a0_4 a0_5 a0_6 a0_7 a0_8 a0_9 a0_10 a0_11 a0_12 a0_13 a0_14 a0_15 a0_16 a0_17 a0_18 = some r) ∧ Aside0 (kq ≤ k) ∧ Aside0 (wc.heap[gb143]? = some (.cells #[.int .i64 a0_0, .int .i64 a0_1, .int .i64 a0_2, .int .i64 a0_3, .int .i64 a0_4, .int .i64 a0_5, .int .i64 a0_6, .int .i64 a0_7, .int .i64 a0_8, .int .i64 a0_9, .int .i64 a0_10, .int .i64 a0_11, .int .i64 a0_12, .int .i64 a0_13, .int .i64 a0_14, .int .i64 a0_15, .int .i64 a0_16, .int .i64 a0_17, .int .i64 a0_18] 30 (0, 0))) ∧ Aside0 (Below w.heap.size w wc))
 case first =>
  have H := HC2.out
  clear HC2
  replace H := Option.bind_eq_some_iff.mp H
  obtain ⟨t144, A40, H⟩ := H
  replace H : (if t144 = true then ((spec_l01In.f a0_18 0 15).bind fun t145 => (if t145 = true then ((spec_l05Shape.f a0_0 a0_1 a0_2 a0_3 a0_4 a0_5 a0_6 a0_7 a0_8 a0_9 a0_10 a0_11 a0_12 a0_13 a0_14 a0_15 a0_16 a0_17 a0_18).bind fun t146 => (spec_l05OK.j0 k (!t146) a0_0 a0_1 a0_2 a0_3 a0_4 a0_5 a0_6 a0_7 a0_8 a0_9 a0_10 a0_11 a0_12 a0_13 a0_14 a0_15 a0_16 a0_17 a0_18)) else (spec_l05OK.j0 k true a0_0 a0_1 a0_2 a0_3 a0_4 a0_5 a0_6 a0_7 a0_8 a0_9 a0_10 a0_11 a0_12 a0_13 a0_14 a0_15 a0_16 a0_17 a0_18))) else (spec_l05OK.j0 k true a0_0 a0_1 a0_2 a0_3 a0_4 a0_5 a0_6 a0_7 a0_8 a0_9 a0_10 a0_11 a0_12 a0_13 a0_14 a0_15 a0_16 a0_17 a0_18)) = some r := H
  have A4 := Aside0.mk A40
  clear A40
  by_cases c5 : t144 = true
  ·subst c5
   have H1 : ((spec_l01In.f a0_18 0 15).bind fun t145 => (if t145 = true then ((spec_l05Shape.f a0_0 a0_1 a0_2 a0_3 a0_4 a0_5 a0_6 a0_7 a0_8 a0_9 a0_10 a0_11 a0_12 a0_13 a0_14 a0_15 a0_16 a0_17 a0_18).bind fun t146 => (spec_l05OK.j0 k (!t146) a0_0 a0_1 a0_2 a0_3 a0_4 a0_5 a0_6 a0_7 a0_8 a0_9 a0_10 a0_11 a0_12 a0_13 a0_14 a0_15 a0_16 a0_17 a0_18)) else (spec_l05OK.j0 k true a0_0 a0_1 a0_2 a0_3 a0_4 a0_5 a0_6 a0_7 a0_8 a0_9 a0_10 a0_11 a0_12 a0_13 a0_14 a0_15 a0_16 a0_17 a0_18))) = some r := by rw [if_pos rfl] at H; exact H
   clear H
   have H := H1
   clear H1
   replace H := Option.bind_eq_some_iff.mp H
   obtain ⟨t145, A60, H⟩ := H
   replace H : (if t145 = true then ((spec_l05Shape.f a0_0 a0_1 a0_2 a0_3 a0_4 a0_5 a0_6 a0_7 a0_8 a0_9 a0_10 a0_11 a0_12 a0_13 a0_14 a0_15 a0_16 a0_17 a0_18).bind fun t146 => (spec_l05OK.j0 k (!t146) a0_0 a0_1 a0_2 a0_3 a0_4 a0_5 a0_6 a0_7 a0_8 a0_9 a0_10 a0_11 a0_12 a0_13 a0_14 a0_15 a0_16 a0_17 a0_18)) else (spec_l05OK.j0 k true a0_0 a0_1 a0_2 a0_3 a0_4 a0_5 a0_6 a0_7 a0_8 a0_9 a0_10 a0_11 a0_12 a0_13 a0_14 a0_15 a0_16 a0_17 a0_18)) = some r := H
   have A6 := Aside0.mk A60
   clear A60
   by_cases c7 : t145 = true
   ·subst c7
    have H1 : ((spec_l05Shape.f a0_0 a0_1 a0_2 a0_3 a0_4 a0_5 a0_6 a0_7 a0_8 a0_9 a0_10 a0_11 a0_12 a0_13 a0_14 a0_15 a0_16 a0_17 a0_18).bind fun t146 => (spec_l05OK.j0 k (!t146) a0_0 a0_1 a0_2 a0_3 a0_4 a0_5 a0_6 a0_7 a0_8 a0_9 a0_10 a0_11 a0_12 a0_13 a0_14 a0_15 a0_16 a0_17 a0_18)) = some r := by rw [if_pos rfl] at H; exact H
    clear H
    have H := H1
    clear H1
    replace H := Option.bind_eq_some_iff.mp H
    obtain ⟨t146, A80, H⟩ := H
    replace H : (spec_l05OK.j0 k (!t146) a0_0 a0_1 a0_2 a0_3 a0_4 a0_5 a0_6 a0_7 a0_8 a0_9 a0_10 a0_11 a0_12 a0_13 a0_14 a0_15 a0_16 a0_17 a0_18) = some r := H
    have A8 := Aside0.mk A80
    clear A80
    have H' := Aside0.mk H
    clear H
    have hcz9_0 := cz BK143.out 0 (.int .i64 a0_0)
    have hcz9_1 := cz BK143.out 1 (.int .i64 a0_1)
    have hcz9_2 := cz BK143.out 2 (.int .i64 a0_2)
    have hcz9_3 := cz BK143.out 3 (.int .i64 a0_3)
    have hcz9_4 := cz BK143.out 4 (.int .i64 a0_4)
    have hcz9_5 := cz BK143.out 5 (.int .i64 a0_5)
    have hcz9_6 := cz BK143.out 6 (.int .i64 a0_6)
    have hcz9_7 := cz BK143.out 7 (.int .i64 a0_7)
    have hcz9_8 := cz BK143.out 8 (.int .i64 a0_8)
    have hcz9_9 := cz BK143.out 9 (.int .i64 a0_9)
    have hcz9_10 := cz BK143.out 10 (.int .i64 a0_10)
    have hcz9_11 := cz BK143.out 11 (.int .i64 a0_11)
    have hcz9_12 := cz BK143.out 12 (.int .i64 a0_12)
    have hcz9_13 := cz BK143.out 13 (.int .i64 a0_13)
    have hcz9_14 := cz BK143.out 14 (.int .i64 a0_14)
    have hcz9_15 := cz BK143.out 15 (.int .i64 a0_15)
    have hcz9_16 := cz BK143.out 16 (.int .i64 a0_16)
    have hcz9_17 := cz BK143.out 17 (.int .i64 a0_17)
    have hcz9_18 := cz BK143.out 18 (.int .i64 a0_18)
    go_wp2_with (first | ((with_reducible refine gate_dst (N := 20) rfl ?_); (try refine gate_guard (by rfl) ?_); refine ldw 30 (.tmp 1) rfl rfl rfl by6 Try.underlying30 rfl by5 ?_) | ((with_reducible refine gate_dst (N := 62) rfl ?_); (try refine gate_guard (by rfl) ?_); refine ldw 30 (.tmp 1) rfl rfl rfl by6 Try.underlying30 rfl by5 ?_) | ((with_reducible refine gate_callee (f := 95) rfl ?_); refine goesL_ (some 11) rfl rfl Try.func95 by5 rfl #[.int .i64 a0_0] rfl by2 ?_; (with_reducible refine (spec_l03Op.calls a0_0 true _ A4.out).mono ?_); rintro e w' ⟨rfl, ⟨nd, rfl⟩⟩; refine ⟨_, rfl, ?_⟩) | (go_at_call 56; (with_reducible refine (spec_l01In.calls a0_18 0 15 true _ A6.out).mono ?_); rintro e w' ⟨rfl, ⟨nd, rfl⟩⟩) | (go_at_call 96; (with_reducible refine (spec_l05Shape.calls a0_0 a0_1 a0_2 a0_3 a0_4 a0_5 a0_6 a0_7 a0_8 a0_9 a0_10 a0_11 a0_12 a0_13 a0_14 a0_15 a0_16 a0_17 a0_18 t146 _ A8.out).mono ?_); rintro e w10 ⟨rfl, hb⟩; have n0_ := Aside0.mk (blk_below (g := gb143) (o := .cells #[.int .i64 a0_0, .int .i64 a0_1, .int .i64 a0_2, .int .i64 a0_3, .int .i64 a0_4, .int .i64 a0_5, .int .i64 a0_6, .int .i64 a0_7, .int .i64 a0_8, .int .i64 a0_9, .int .i64 a0_10, .int .i64 a0_11, .int .i64 a0_12, .int .i64 a0_13, .int .i64 a0_14, .int .i64 a0_15, .int .i64 a0_16, .int .i64 a0_17, .int .i64 a0_18] 30 (0, 0)) by6 hb); have n1_ := Aside0.mk (below_step by12 hb); clear BK143; clear HB; have BK143 := n0_; have HB := n1_; clear n0_ n1_; (try clear hb); (try clear hb2); (try clear hk); (try clear hi)))
    go_meet
    case rel => exact ⟨_, (!t146), by11, H', ⟨by first | omega | exact Nat.le_refl _⟩, ⟨by (with_reducible repeat (first | refine blk_drewN ?_ _ | refine blk_drew ?_ | refine blk_alloc ?_ _)); exact BK143.out⟩, ⟨by repeat (first | (with_reducible first | exact HB.out | apply below_alloc | apply pw_below_drewN | apply below_drew1 | refine below_set ?_ GE143.out) | exact HB.out)⟩⟩
   ·replace c7 := Bool.eq_false_iff.mpr c7
    subst c7
    have H1 : (spec_l05OK.j0 k true a0_0 a0_1 a0_2 a0_3 a0_4 a0_5 a0_6 a0_7 a0_8 a0_9 a0_10 a0_11 a0_12 a0_13 a0_14 a0_15 a0_16 a0_17 a0_18) = some r := by rw [if_neg (show ¬ (false = true) by decide)] at H; exact H
    clear H
    have H := H1
    clear H1
    have H' := Aside0.mk H
    clear H
    have hcz11_0 := cz BK143.out 0 (.int .i64 a0_0)
    have hcz11_1 := cz BK143.out 1 (.int .i64 a0_1)
    have hcz11_2 := cz BK143.out 2 (.int .i64 a0_2)
    have hcz11_3 := cz BK143.out 3 (.int .i64 a0_3)
    have hcz11_4 := cz BK143.out 4 (.int .i64 a0_4)
    have hcz11_5 := cz BK143.out 5 (.int .i64 a0_5)
    have hcz11_6 := cz BK143.out 6 (.int .i64 a0_6)
    have hcz11_7 := cz BK143.out 7 (.int .i64 a0_7)
    have hcz11_8 := cz BK143.out 8 (.int .i64 a0_8)
    have hcz11_9 := cz BK143.out 9 (.int .i64 a0_9)
    have hcz11_10 := cz BK143.out 10 (.int .i64 a0_10)
    have hcz11_11 := cz BK143.out 11 (.int .i64 a0_11)
    have hcz11_12 := cz BK143.out 12 (.int .i64 a0_12)
    have hcz11_13 := cz BK143.out 13 (.int .i64 a0_13)
    have hcz11_14 := cz BK143.out 14 (.int .i64 a0_14)
    have hcz11_15 := cz BK143.out 15 (.int .i64 a0_15)
    have hcz11_16 := cz BK143.out 16 (.int .i64 a0_16)
    have hcz11_17 := cz BK143.out 17 (.int .i64 a0_17)
    have hcz11_18 := cz BK143.out 18 (.int .i64 a0_18)
    go_wp2_with (first | ((with_reducible refine gate_dst (N := 20) rfl ?_); (try refine gate_guard (by rfl) ?_); refine ldw 30 (.tmp 1) rfl rfl rfl by6 Try.underlying30 rfl by5 ?_) | ((with_reducible refine gate_dst (N := 62) rfl ?_); (try refine gate_guard (by rfl) ?_); refine ldw 30 (.tmp 1) rfl rfl rfl by6 Try.underlying30 rfl by5 ?_) | ((with_reducible refine gate_callee (f := 95) rfl ?_); refine goesL_ (some 11) rfl rfl Try.func95 by5 rfl #[.int .i64 a0_0] rfl by2 ?_; (with_reducible refine (spec_l03Op.calls a0_0 true _ A4.out).mono ?_); rintro e w' ⟨rfl, ⟨nd, rfl⟩⟩; refine ⟨_, rfl, ?_⟩) | (go_at_call 56; (with_reducible refine (spec_l01In.calls a0_18 0 15 false _ A6.out).mono ?_); rintro e w' ⟨rfl, ⟨nd, rfl⟩⟩))
    go_meet
    case rel => exact ⟨_, (true), by11, H', ⟨by first | omega | exact Nat.le_refl _⟩, ⟨by (with_reducible repeat (first | refine blk_drewN ?_ _ | refine blk_drew ?_ | refine blk_alloc ?_ _)); exact BK143.out⟩, ⟨by repeat (first | (with_reducible first | exact HB.out | apply below_alloc | apply pw_below_drewN | apply below_drew1 | refine below_set ?_ GE143.out) | exact HB.out)⟩⟩
  ·replace c5 := Bool.eq_false_iff.mpr c5
   subst c5
   have H1 : (spec_l05OK.j0 k true a0_0 a0_1 a0_2 a0_3 a0_4 a0_5 a0_6 a0_7 a0_8 a0_9 a0_10 a0_11 a0_12 a0_13 a0_14 a0_15 a0_16 a0_17 a0_18) = some r := by rw [if_neg (show ¬ (false = true) by decide)] at H; exact H
   clear H
   have H := H1
   clear H1
   have H' := Aside0.mk H
   clear H
   have hcz12_0 := cz BK143.out 0 (.int .i64 a0_0)
   have hcz12_1 := cz BK143.out 1 (.int .i64 a0_1)
   have hcz12_2 := cz BK143.out 2 (.int .i64 a0_2)
   have hcz12_3 := cz BK143.out 3 (.int .i64 a0_3)
   have hcz12_4 := cz BK143.out 4 (.int .i64 a0_4)
   have hcz12_5 := cz BK143.out 5 (.int .i64 a0_5)
   have hcz12_6 := cz BK143.out 6 (.int .i64 a0_6)
   have hcz12_7 := cz BK143.out 7 (.int .i64 a0_7)
   have hcz12_8 := cz BK143.out 8 (.int .i64 a0_8)
   have hcz12_9 := cz BK143.out 9 (.int .i64 a0_9)
   have hcz12_10 := cz BK143.out 10 (.int .i64 a0_10)
   have hcz12_11 := cz BK143.out 11 (.int .i64 a0_11)
   have hcz12_12 := cz BK143.out 12 (.int .i64 a0_12)
   have hcz12_13 := cz BK143.out 13 (.int .i64 a0_13)
   have hcz12_14 := cz BK143.out 14 (.int .i64 a0_14)
   have hcz12_15 := cz BK143.out 15 (.int .i64 a0_15)
   have hcz12_16 := cz BK143.out 16 (.int .i64 a0_16)
   have hcz12_17 := cz BK143.out 17 (.int .i64 a0_17)
   have hcz12_18 := cz BK143.out 18 (.int .i64 a0_18)
   go_wp2_with (first | ((with_reducible refine gate_dst (N := 20) rfl ?_); (try refine gate_guard (by rfl) ?_); refine ldw 30 (.tmp 1) rfl rfl rfl by6 Try.underlying30 rfl by5 ?_) | ((with_reducible refine gate_dst (N := 62) rfl ?_); (try refine gate_guard (by rfl) ?_); refine ldw 30 (.tmp 1) rfl rfl rfl by6 Try.underlying30 rfl by5 ?_) | ((with_reducible refine gate_callee (f := 95) rfl ?_); refine goesL_ (some 11) rfl rfl Try.func95 by5 rfl #[.int .i64 a0_0] rfl by2 ?_; (with_reducible refine (spec_l03Op.calls a0_0 false _ A4.out).mono ?_); rintro e w' ⟨rfl, ⟨nd, rfl⟩⟩; refine ⟨_, rfl, ?_⟩))
   go_meet
   case rel => exact ⟨_, (true), by11, H', ⟨by first | omega | exact Nat.le_refl _⟩, ⟨by (with_reducible repeat (first | refine blk_drewN ?_ _ | refine blk_drew ?_ | refine blk_alloc ?_ _)); exact BK143.out⟩, ⟨by repeat (first | (with_reducible first | exact HB.out | apply below_alloc | apply pw_below_drewN | apply below_drew1 | refine below_set ?_ GE143.out) | exact HB.out)⟩⟩
 case rest =>
  clear HC2
  (try clear c5); (try clear c7); (try clear hcz11_0); (try clear hcz11_1); (try clear hcz11_10); (try clear hcz11_11); (try clear hcz11_12); (try clear hcz11_13); (try clear hcz11_14); (try clear hcz11_15); (try clear hcz11_16); (try clear hcz11_17); (try clear hcz11_18); (try clear hcz11_2); (try clear hcz11_3); (try clear hcz11_4); (try clear hcz11_5); (try clear hcz11_6); (try clear hcz11_7); (try clear hcz11_8); (try clear hcz11_9); (try clear hcz12_0); (try clear hcz12_1); (try clear hcz12_10); (try clear hcz12_11); (try clear hcz12_12); (try clear hcz12_13); (try clear hcz12_14); (try clear hcz12_15); (try clear hcz12_16); (try clear hcz12_17); (try clear hcz12_18); (try clear hcz12_2); (try clear hcz12_3); (try clear hcz12_4); (try clear hcz12_5); (try clear hcz12_6); (try clear hcz12_7); (try clear hcz12_8); (try clear hcz12_9); (try clear hcz9_0); (try clear hcz9_1); (try clear hcz9_10); (try clear hcz9_11); (try clear hcz9_12); (try clear hcz9_13); (try clear hcz9_14); (try clear hcz9_15); (try clear hcz9_16); (try clear hcz9_17); (try clear hcz9_18); (try clear hcz9_2); (try clear hcz9_3); (try clear hcz9_4); (try clear hcz9_5); (try clear hcz9_6); (try clear hcz9_7); (try clear hcz9_8); (try clear hcz9_9)
  obtain ⟨kq, x23_1, rfl, HA, HJ1, BK143, HB⟩ := hcut
  cases kq with
  | zero => exact absurd HA.out (by simp [spec_l05OK.j0])
  | succ kj1 =>
   have H := HA.out
   clear HA
   simp only [spec_l05OK.j0] at H
   by_cases c13 : x23_1 = true
   ·subst c13
    have H1 : (some false) = some r := by rw [if_pos rfl] at H; exact H
    clear H
    have H := H1
    clear H1
    exact spec_l05OK.e0
   ·replace c13 := Bool.eq_false_iff.mpr c13
    subst c13
    have H1 : (if a0_0 = 26 then (spec_l05OK.j1 kj1 false a0_0 a0_1 a0_2 a0_3 a0_4 a0_5 a0_6 a0_7 a0_8 a0_9 a0_10 a0_11 a0_12 a0_13 a0_14 a0_15 a0_16 a0_17 a0_18) else (if a0_0 = 27 then (spec_l05OK.j1 kj1 false a0_0 a0_1 a0_2 a0_3 a0_4 a0_5 a0_6 a0_7 a0_8 a0_9 a0_10 a0_11 a0_12 a0_13 a0_14 a0_15 a0_16 a0_17 a0_18) else (spec_l05OK.j1 kj1 (a0_3 != 0) a0_0 a0_1 a0_2 a0_3 a0_4 a0_5 a0_6 a0_7 a0_8 a0_9 a0_10 a0_11 a0_12 a0_13 a0_14 a0_15 a0_16 a0_17 a0_18))) = some r := by rw [if_neg (show ¬ (false = true) by decide)] at H; exact H
    clear H
    have H := H1
    clear H1
    have HC14 := Aside0.mk H
    clear H
    go_upto_region 3 with (first | ((with_reducible refine gate_dst (N := 20) rfl ?_); (try refine gate_guard (by rfl) ?_); refine ldw 30 (.tmp 1) rfl rfl rfl by6 Try.underlying30 rfl by5 ?_) | ((with_reducible refine gate_dst (N := 62) rfl ?_); (try refine gate_guard (by rfl) ?_); refine ldw 30 (.tmp 1) rfl rfl rfl by6 Try.underlying30 rfl by5 ?_))
    go_cut [36] (fun v36 wc => ∃ (kq : Nat) (x36_13 : Bool), v36 = .bool x36_13 ∧ Aside0 (spec_l05OK.j1 kq x36_13 a0_0 a0_1 a0_2 a0_3 a0_4 a0_5 a0_6 a0_7 a0_8 a0_9 a0_10 a0_11 a0_12 a0_13 a0_14 a0_15 a0_16 a0_17 a0_18 = some r) ∧ Aside0 (kq ≤ kj1) ∧ Aside0 (wc.heap[gb143]? = some (.cells #[.int .i64 a0_0, .int .i64 a0_1, .int .i64 a0_2, .int .i64 a0_3, .int .i64 a0_4, .int .i64 a0_5, .int .i64 a0_6, .int .i64 a0_7, .int .i64 a0_8, .int .i64 a0_9, .int .i64 a0_10, .int .i64 a0_11, .int .i64 a0_12, .int .i64 a0_13, .int .i64 a0_14, .int .i64 a0_15, .int .i64 a0_16, .int .i64 a0_17, .int .i64 a0_18] 30 (0, 0))) ∧ Aside0 (Below w.heap.size w wc))
    case first =>
     have H := HC14.out
     clear HC14
     by_cases c15 : a0_0 = 26
     ·rw [if_pos c15] at H
      have c15b0 : (a0_0 == 26) = true := beq_iff_eq.mpr c15
      have c15b1 : (a0_0 != 26) = false := bne_eq_false_iff_eq.mpr c15
      clear c15
      (first | rw [c15b0] | (simp only [i64_w, i32_w]; rw [c15b0]) | rw [c15b1] | skip)
      have H' := Aside0.mk H
      clear H
      have hcz16_0 := cz BK143.out 0 (.int .i64 a0_0)
      have hcz16_1 := cz BK143.out 1 (.int .i64 a0_1)
      have hcz16_2 := cz BK143.out 2 (.int .i64 a0_2)
      have hcz16_3 := cz BK143.out 3 (.int .i64 a0_3)
      have hcz16_4 := cz BK143.out 4 (.int .i64 a0_4)
      have hcz16_5 := cz BK143.out 5 (.int .i64 a0_5)
      have hcz16_6 := cz BK143.out 6 (.int .i64 a0_6)
      have hcz16_7 := cz BK143.out 7 (.int .i64 a0_7)
      have hcz16_8 := cz BK143.out 8 (.int .i64 a0_8)
      have hcz16_9 := cz BK143.out 9 (.int .i64 a0_9)
      have hcz16_10 := cz BK143.out 10 (.int .i64 a0_10)
      have hcz16_11 := cz BK143.out 11 (.int .i64 a0_11)
      have hcz16_12 := cz BK143.out 12 (.int .i64 a0_12)
      have hcz16_13 := cz BK143.out 13 (.int .i64 a0_13)
      have hcz16_14 := cz BK143.out 14 (.int .i64 a0_14)
      have hcz16_15 := cz BK143.out 15 (.int .i64 a0_15)
      have hcz16_16 := cz BK143.out 16 (.int .i64 a0_16)
      have hcz16_17 := cz BK143.out 17 (.int .i64 a0_17)
      have hcz16_18 := cz BK143.out 18 (.int .i64 a0_18)
      go_wp2_with (first | ((with_reducible refine gate_dst (N := 20) rfl ?_); (try refine gate_guard (by rfl) ?_); refine ldw 30 (.tmp 1) rfl rfl rfl by6 Try.underlying30 rfl by5 ?_) | ((with_reducible refine gate_dst (N := 62) rfl ?_); (try refine gate_guard (by rfl) ?_); refine ldw 30 (.tmp 1) rfl rfl rfl by6 Try.underlying30 rfl by5 ?_))
      go_meet
      case rel => exact ⟨_, (false), by11, H', ⟨by have := HJ1.out; first | omega | exact Nat.le_refl _⟩, ⟨by (with_reducible repeat (first | refine blk_drewN ?_ _ | refine blk_drew ?_ | refine blk_alloc ?_ _)); exact BK143.out⟩, ⟨by repeat (first | (with_reducible first | exact HB.out | apply below_alloc | apply pw_below_drewN | apply below_drew1 | refine below_set ?_ GE143.out) | exact HB.out)⟩⟩
     ·rw [if_neg c15] at H
      have c15b0 : (a0_0 == 26) = false := beq_eq_false_iff_ne.mpr c15
      have c15b1 : (a0_0 != 26) = true := bne_iff_ne.mpr c15
      (first | rw [c15b0] | (simp only [i64_w, i32_w]; rw [c15b0]) | rw [c15b1] | skip)
      by_cases c17 : a0_0 = 27
      ·rw [if_pos c17] at H
       have c17b0 : (a0_0 == 27) = true := beq_iff_eq.mpr c17
       have c17b1 : (a0_0 != 27) = false := bne_eq_false_iff_eq.mpr c17
       clear c17
       have H' := Aside0.mk H
       clear H
       have hcz18_0 := cz BK143.out 0 (.int .i64 a0_0)
       have hcz18_1 := cz BK143.out 1 (.int .i64 a0_1)
       have hcz18_2 := cz BK143.out 2 (.int .i64 a0_2)
       have hcz18_3 := cz BK143.out 3 (.int .i64 a0_3)
       have hcz18_4 := cz BK143.out 4 (.int .i64 a0_4)
       have hcz18_5 := cz BK143.out 5 (.int .i64 a0_5)
       have hcz18_6 := cz BK143.out 6 (.int .i64 a0_6)
       have hcz18_7 := cz BK143.out 7 (.int .i64 a0_7)
       have hcz18_8 := cz BK143.out 8 (.int .i64 a0_8)
       have hcz18_9 := cz BK143.out 9 (.int .i64 a0_9)
       have hcz18_10 := cz BK143.out 10 (.int .i64 a0_10)
       have hcz18_11 := cz BK143.out 11 (.int .i64 a0_11)
       have hcz18_12 := cz BK143.out 12 (.int .i64 a0_12)
       have hcz18_13 := cz BK143.out 13 (.int .i64 a0_13)
       have hcz18_14 := cz BK143.out 14 (.int .i64 a0_14)
       have hcz18_15 := cz BK143.out 15 (.int .i64 a0_15)
       have hcz18_16 := cz BK143.out 16 (.int .i64 a0_16)
       have hcz18_17 := cz BK143.out 17 (.int .i64 a0_17)
       have hcz18_18 := cz BK143.out 18 (.int .i64 a0_18)
       go_wp2_with (first | ((with_reducible refine gate_dst (N := 20) rfl ?_); (try refine gate_guard (by rfl) ?_); refine ldw 30 (.tmp 1) rfl rfl rfl by6 Try.underlying30 rfl by5 ?_) | ((with_reducible refine gate_dst (N := 62) rfl ?_); (try refine gate_guard (by rfl) ?_); refine ldw 30 (.tmp 1) rfl rfl rfl by6 Try.underlying30 rfl by5 ?_))
       go_meet
       case rel => exact ⟨_, (false), by11, H', ⟨by have := HJ1.out; first | omega | exact Nat.le_refl _⟩, ⟨by (with_reducible repeat (first | refine blk_drewN ?_ _ | refine blk_drew ?_ | refine blk_alloc ?_ _)); exact BK143.out⟩, ⟨by repeat (first | (with_reducible first | exact HB.out | apply below_alloc | apply pw_below_drewN | apply below_drew1 | refine below_set ?_ GE143.out) | exact HB.out)⟩⟩
      ·rw [if_neg c17] at H
       have c17b0 : (a0_0 == 27) = false := beq_eq_false_iff_ne.mpr c17
       have c17b1 : (a0_0 != 27) = true := bne_iff_ne.mpr c17
       have H' := Aside0.mk H
       clear H
       have hcz19_0 := cz BK143.out 0 (.int .i64 a0_0)
       have hcz19_1 := cz BK143.out 1 (.int .i64 a0_1)
       have hcz19_2 := cz BK143.out 2 (.int .i64 a0_2)
       have hcz19_3 := cz BK143.out 3 (.int .i64 a0_3)
       have hcz19_4 := cz BK143.out 4 (.int .i64 a0_4)
       have hcz19_5 := cz BK143.out 5 (.int .i64 a0_5)
       have hcz19_6 := cz BK143.out 6 (.int .i64 a0_6)
       have hcz19_7 := cz BK143.out 7 (.int .i64 a0_7)
       have hcz19_8 := cz BK143.out 8 (.int .i64 a0_8)
       have hcz19_9 := cz BK143.out 9 (.int .i64 a0_9)
       have hcz19_10 := cz BK143.out 10 (.int .i64 a0_10)
       have hcz19_11 := cz BK143.out 11 (.int .i64 a0_11)
       have hcz19_12 := cz BK143.out 12 (.int .i64 a0_12)
       have hcz19_13 := cz BK143.out 13 (.int .i64 a0_13)
       have hcz19_14 := cz BK143.out 14 (.int .i64 a0_14)
       have hcz19_15 := cz BK143.out 15 (.int .i64 a0_15)
       have hcz19_16 := cz BK143.out 16 (.int .i64 a0_16)
       have hcz19_17 := cz BK143.out 17 (.int .i64 a0_17)
       have hcz19_18 := cz BK143.out 18 (.int .i64 a0_18)
       go_wp2_with (first | ((with_reducible refine gate_dst (N := 20) rfl ?_); (try refine gate_guard (by rfl) ?_); refine ldw 30 (.tmp 1) rfl rfl rfl by6 Try.underlying30 rfl by5 ?_) | ((with_reducible refine gate_dst (N := 62) rfl ?_); (try refine gate_guard (by rfl) ?_); refine ldw 30 (.tmp 1) rfl rfl rfl by6 Try.underlying30 rfl by5 ?_))
       go_meet
       case rel => exact ⟨_, ((a0_3 != 0)), by11, H', ⟨by have := HJ1.out; first | omega | exact Nat.le_refl _⟩, ⟨by (with_reducible repeat (first | refine blk_drewN ?_ _ | refine blk_drew ?_ | refine blk_alloc ?_ _)); exact BK143.out⟩, ⟨by repeat (first | (with_reducible first | exact HB.out | apply below_alloc | apply pw_below_drewN | apply below_drew1 | refine below_set ?_ GE143.out) | exact HB.out)⟩⟩
    case rest =>
     clear HC14
     (try clear c5); (try clear c7); (try clear c13); (try clear c15); (try clear c15b0); (try clear c15b1); (try clear c17); (try clear c17b0); (try clear c17b1); (try clear hcz11_0); (try clear hcz11_1); (try clear hcz11_10); (try clear hcz11_11); (try clear hcz11_12); (try clear hcz11_13); (try clear hcz11_14); (try clear hcz11_15); (try clear hcz11_16); (try clear hcz11_17); (try clear hcz11_18); (try clear hcz11_2); (try clear hcz11_3); (try clear hcz11_4); (try clear hcz11_5); (try clear hcz11_6); (try clear hcz11_7); (try clear hcz11_8); (try clear hcz11_9); (try clear hcz12_0); (try clear hcz12_1); (try clear hcz12_10); (try clear hcz12_11); (try clear hcz12_12); (try clear hcz12_13); (try clear hcz12_14); (try clear hcz12_15); (try clear hcz12_16); (try clear hcz12_17); (try clear hcz12_18); (try clear hcz12_2); (try clear hcz12_3); (try clear hcz12_4); (try clear hcz12_5); (try clear hcz12_6); (try clear hcz12_7); (try clear hcz12_8); (try clear hcz12_9); (try clear hcz16_0); (try clear hcz16_1); (try clear hcz16_10); (try clear hcz16_11); (try clear hcz16_12); (try clear hcz16_13); (try clear hcz16_14); (try clear hcz16_15); (try clear hcz16_16); (try clear hcz16_17); (try clear hcz16_18); (try clear hcz16_2); (try clear hcz16_3); (try clear hcz16_4); (try clear hcz16_5); (try clear hcz16_6); (try clear hcz16_7); (try clear hcz16_8); (try clear hcz16_9); (try clear hcz18_0); (try clear hcz18_1); (try clear hcz18_10); (try clear hcz18_11); (try clear hcz18_12); (try clear hcz18_13); (try clear hcz18_14); (try clear hcz18_15); (try clear hcz18_16); (try clear hcz18_17); (try clear hcz18_18); (try clear hcz18_2); (try clear hcz18_3); (try clear hcz18_4); (try clear hcz18_5); (try clear hcz18_6); (try clear hcz18_7); (try clear hcz18_8); (try clear hcz18_9); (try clear hcz19_0); (try clear hcz19_1); (try clear hcz19_10); (try clear hcz19_11); (try clear hcz19_12); (try clear hcz19_13); (try clear hcz19_14); (try clear hcz19_15); (try clear hcz19_16); (try clear hcz19_17); (try clear hcz19_18); (try clear hcz19_2); (try clear hcz19_3); (try clear hcz19_4); (try clear hcz19_5); (try clear hcz19_6); (try clear hcz19_7); (try clear hcz19_8); (try clear hcz19_9); (try clear hcz9_0); (try clear hcz9_1); (try clear hcz9_10); (try clear hcz9_11); (try clear hcz9_12); (try clear hcz9_13); (try clear hcz9_14); (try clear hcz9_15); (try clear hcz9_16); (try clear hcz9_17); (try clear hcz9_18); (try clear hcz9_2); (try clear hcz9_3); (try clear hcz9_4); (try clear hcz9_5); (try clear hcz9_6); (try clear hcz9_7); (try clear hcz9_8); (try clear hcz9_9)
     obtain ⟨kq, x36_13, rfl, HA, HJ13, BK143, HB⟩ := hcut
     cases kq with
     | zero => exact absurd HA.out (by simp [spec_l05OK.j1])
     | succ kj13 =>
      have H := HA.out
      clear HA
      simp only [spec_l05OK.j1] at H
      by_cases c20 : x36_13 = true
      ·subst c20
       have H1 : (some false) = some r := by rw [if_pos rfl] at H; exact H
       clear H
       have H := H1
       clear H1
       exact spec_l05OK.e0
      ·replace c20 := Bool.eq_false_iff.mpr c20
       subst c20
       have H1 : (if a0_0 = 33 then ((spec_l01In.f a0_2 0 15).bind fun t147 => (spec_l05OK.j2 kj13 (!t147) a0_0 a0_1 a0_2 a0_3 a0_4 a0_5 a0_6 a0_7 a0_8 a0_9 a0_10 a0_11 a0_12 a0_13 a0_14 a0_15 a0_16 a0_17 a0_18)) else (if a0_0 = 35 then ((spec_l01In.f a0_2 0 15).bind fun t148 => (spec_l05OK.j2 kj13 (!t148) a0_0 a0_1 a0_2 a0_3 a0_4 a0_5 a0_6 a0_7 a0_8 a0_9 a0_10 a0_11 a0_12 a0_13 a0_14 a0_15 a0_16 a0_17 a0_18)) else (if a0_0 = 36 then ((spec_l01In.f a0_2 0 15).bind fun t149 => (spec_l05OK.j2 kj13 (!t149) a0_0 a0_1 a0_2 a0_3 a0_4 a0_5 a0_6 a0_7 a0_8 a0_9 a0_10 a0_11 a0_12 a0_13 a0_14 a0_15 a0_16 a0_17 a0_18)) else (if a0_2 = 0 then ((spec_l01In.f a0_2 0 15).bind fun t150 => (spec_l05OK.j2 kj13 (!t150) a0_0 a0_1 a0_2 a0_3 a0_4 a0_5 a0_6 a0_7 a0_8 a0_9 a0_10 a0_11 a0_12 a0_13 a0_14 a0_15 a0_16 a0_17 a0_18)) else (spec_l05OK.j2 kj13 true a0_0 a0_1 a0_2 a0_3 a0_4 a0_5 a0_6 a0_7 a0_8 a0_9 a0_10 a0_11 a0_12 a0_13 a0_14 a0_15 a0_16 a0_17 a0_18))))) = some r := by rw [if_neg (show ¬ (false = true) by decide)] at H; exact H
       clear H
       have H := H1
       clear H1
       have HC21 := Aside0.mk H
       clear H
       go_upto_region 5 with (first | ((with_reducible refine gate_dst (N := 20) rfl ?_); (try refine gate_guard (by rfl) ?_); refine ldw 30 (.tmp 1) rfl rfl rfl by6 Try.underlying30 rfl by5 ?_) | ((with_reducible refine gate_dst (N := 62) rfl ?_); (try refine gate_guard (by rfl) ?_); refine ldw 30 (.tmp 1) rfl rfl rfl by6 Try.underlying30 rfl by5 ?_))
       go_cut [60] (fun v60 wc => ∃ (kq : Nat) (x60_20 : Bool), v60 = .bool x60_20 ∧ Aside0 (spec_l05OK.j2 kq x60_20 a0_0 a0_1 a0_2 a0_3 a0_4 a0_5 a0_6 a0_7 a0_8 a0_9 a0_10 a0_11 a0_12 a0_13 a0_14 a0_15 a0_16 a0_17 a0_18 = some r) ∧ Aside0 (kq ≤ kj13) ∧ Aside0 (wc.heap[gb143]? = some (.cells #[.int .i64 a0_0, .int .i64 a0_1, .int .i64 a0_2, .int .i64 a0_3, .int .i64 a0_4, .int .i64 a0_5, .int .i64 a0_6, .int .i64 a0_7, .int .i64 a0_8, .int .i64 a0_9, .int .i64 a0_10, .int .i64 a0_11, .int .i64 a0_12, .int .i64 a0_13, .int .i64 a0_14, .int .i64 a0_15, .int .i64 a0_16, .int .i64 a0_17, .int .i64 a0_18] 30 (0, 0))) ∧ Aside0 (Below w.heap.size w wc))
       case first =>
        have H := HC21.out
        clear HC21
        by_cases c22 : a0_0 = 33
        ·rw [if_pos c22] at H
         have c22b0 : (a0_0 == 33) = true := beq_iff_eq.mpr c22
         have c22b1 : (a0_0 != 33) = false := bne_eq_false_iff_eq.mpr c22
         clear c22
         (first | rw [c22b0] | (simp only [i64_w, i32_w]; rw [c22b0]) | rw [c22b1] | skip)
         replace H := Option.bind_eq_some_iff.mp H
         obtain ⟨t147, A230, H⟩ := H
         replace H : (spec_l05OK.j2 kj13 (!t147) a0_0 a0_1 a0_2 a0_3 a0_4 a0_5 a0_6 a0_7 a0_8 a0_9 a0_10 a0_11 a0_12 a0_13 a0_14 a0_15 a0_16 a0_17 a0_18) = some r := H
         have A23 := Aside0.mk A230
         clear A230
         have H' := Aside0.mk H
         clear H
         have hcz24_0 := cz BK143.out 0 (.int .i64 a0_0)
         have hcz24_1 := cz BK143.out 1 (.int .i64 a0_1)
         have hcz24_2 := cz BK143.out 2 (.int .i64 a0_2)
         have hcz24_3 := cz BK143.out 3 (.int .i64 a0_3)
         have hcz24_4 := cz BK143.out 4 (.int .i64 a0_4)
         have hcz24_5 := cz BK143.out 5 (.int .i64 a0_5)
         have hcz24_6 := cz BK143.out 6 (.int .i64 a0_6)
         have hcz24_7 := cz BK143.out 7 (.int .i64 a0_7)
         have hcz24_8 := cz BK143.out 8 (.int .i64 a0_8)
         have hcz24_9 := cz BK143.out 9 (.int .i64 a0_9)
         have hcz24_10 := cz BK143.out 10 (.int .i64 a0_10)
         have hcz24_11 := cz BK143.out 11 (.int .i64 a0_11)
         have hcz24_12 := cz BK143.out 12 (.int .i64 a0_12)
         have hcz24_13 := cz BK143.out 13 (.int .i64 a0_13)
         have hcz24_14 := cz BK143.out 14 (.int .i64 a0_14)
         have hcz24_15 := cz BK143.out 15 (.int .i64 a0_15)
         have hcz24_16 := cz BK143.out 16 (.int .i64 a0_16)
         have hcz24_17 := cz BK143.out 17 (.int .i64 a0_17)
         have hcz24_18 := cz BK143.out 18 (.int .i64 a0_18)
         go_wp2_with (first | ((with_reducible refine gate_dst (N := 20) rfl ?_); (try refine gate_guard (by rfl) ?_); refine ldw 30 (.tmp 1) rfl rfl rfl by6 Try.underlying30 rfl by5 ?_) | ((with_reducible refine gate_dst (N := 62) rfl ?_); (try refine gate_guard (by rfl) ?_); refine ldw 30 (.tmp 1) rfl rfl rfl by6 Try.underlying30 rfl by5 ?_) | (go_at_call 56; (with_reducible refine (spec_l01In.calls a0_2 0 15 t147 _ A23.out).mono ?_); rintro e w' ⟨rfl, ⟨nd, rfl⟩⟩))
         go_meet
         case rel => exact ⟨_, (!t147), by11, H', ⟨by have := HJ1.out; have := HJ13.out; first | omega | exact Nat.le_refl _⟩, ⟨by (with_reducible repeat (first | refine blk_drewN ?_ _ | refine blk_drew ?_ | refine blk_alloc ?_ _)); exact BK143.out⟩, ⟨by repeat (first | (with_reducible first | exact HB.out | apply below_alloc | apply pw_below_drewN | apply below_drew1 | refine below_set ?_ GE143.out) | exact HB.out)⟩⟩
        ·rw [if_neg c22] at H
         have c22b0 : (a0_0 == 33) = false := beq_eq_false_iff_ne.mpr c22
         have c22b1 : (a0_0 != 33) = true := bne_iff_ne.mpr c22
         (first | rw [c22b0] | (simp only [i64_w, i32_w]; rw [c22b0]) | rw [c22b1] | skip)
         by_cases c25 : a0_0 = 35
         ·rw [if_pos c25] at H
          have c25b0 : (a0_0 == 35) = true := beq_iff_eq.mpr c25
          have c25b1 : (a0_0 != 35) = false := bne_eq_false_iff_eq.mpr c25
          clear c25
          replace H := Option.bind_eq_some_iff.mp H
          obtain ⟨t148, A260, H⟩ := H
          replace H : (spec_l05OK.j2 kj13 (!t148) a0_0 a0_1 a0_2 a0_3 a0_4 a0_5 a0_6 a0_7 a0_8 a0_9 a0_10 a0_11 a0_12 a0_13 a0_14 a0_15 a0_16 a0_17 a0_18) = some r := H
          have A26 := Aside0.mk A260
          clear A260
          have H' := Aside0.mk H
          clear H
          have hcz27_0 := cz BK143.out 0 (.int .i64 a0_0)
          have hcz27_1 := cz BK143.out 1 (.int .i64 a0_1)
          have hcz27_2 := cz BK143.out 2 (.int .i64 a0_2)
          have hcz27_3 := cz BK143.out 3 (.int .i64 a0_3)
          have hcz27_4 := cz BK143.out 4 (.int .i64 a0_4)
          have hcz27_5 := cz BK143.out 5 (.int .i64 a0_5)
          have hcz27_6 := cz BK143.out 6 (.int .i64 a0_6)
          have hcz27_7 := cz BK143.out 7 (.int .i64 a0_7)
          have hcz27_8 := cz BK143.out 8 (.int .i64 a0_8)
          have hcz27_9 := cz BK143.out 9 (.int .i64 a0_9)
          have hcz27_10 := cz BK143.out 10 (.int .i64 a0_10)
          have hcz27_11 := cz BK143.out 11 (.int .i64 a0_11)
          have hcz27_12 := cz BK143.out 12 (.int .i64 a0_12)
          have hcz27_13 := cz BK143.out 13 (.int .i64 a0_13)
          have hcz27_14 := cz BK143.out 14 (.int .i64 a0_14)
          have hcz27_15 := cz BK143.out 15 (.int .i64 a0_15)
          have hcz27_16 := cz BK143.out 16 (.int .i64 a0_16)
          have hcz27_17 := cz BK143.out 17 (.int .i64 a0_17)
          have hcz27_18 := cz BK143.out 18 (.int .i64 a0_18)
          go_wp2_with (first | ((with_reducible refine gate_dst (N := 20) rfl ?_); (try refine gate_guard (by rfl) ?_); refine ldw 30 (.tmp 1) rfl rfl rfl by6 Try.underlying30 rfl by5 ?_) | ((with_reducible refine gate_dst (N := 62) rfl ?_); (try refine gate_guard (by rfl) ?_); refine ldw 30 (.tmp 1) rfl rfl rfl by6 Try.underlying30 rfl by5 ?_) | (go_at_call 56; (with_reducible refine (spec_l01In.calls a0_2 0 15 t148 _ A26.out).mono ?_); rintro e w' ⟨rfl, ⟨nd, rfl⟩⟩))
          go_meet
          case rel => exact ⟨_, (!t148), by11, H', ⟨by have := HJ1.out; have := HJ13.out; first | omega | exact Nat.le_refl _⟩, ⟨by (with_reducible repeat (first | refine blk_drewN ?_ _ | refine blk_drew ?_ | refine blk_alloc ?_ _)); exact BK143.out⟩, ⟨by repeat (first | (with_reducible first | exact HB.out | apply below_alloc | apply pw_below_drewN | apply below_drew1 | refine below_set ?_ GE143.out) | exact HB.out)⟩⟩
         ·rw [if_neg c25] at H
          have c25b0 : (a0_0 == 35) = false := beq_eq_false_iff_ne.mpr c25
          have c25b1 : (a0_0 != 35) = true := bne_iff_ne.mpr c25
          by_cases c28 : a0_0 = 36
          ·rw [if_pos c28] at H
           have c28b0 : (a0_0 == 36) = true := beq_iff_eq.mpr c28
           have c28b1 : (a0_0 != 36) = false := bne_eq_false_iff_eq.mpr c28
           clear c28
           replace H := Option.bind_eq_some_iff.mp H
           obtain ⟨t149, A290, H⟩ := H
           replace H : (spec_l05OK.j2 kj13 (!t149) a0_0 a0_1 a0_2 a0_3 a0_4 a0_5 a0_6 a0_7 a0_8 a0_9 a0_10 a0_11 a0_12 a0_13 a0_14 a0_15 a0_16 a0_17 a0_18) = some r := H
           have A29 := Aside0.mk A290
           clear A290
           have H' := Aside0.mk H
           clear H
           have hcz30_0 := cz BK143.out 0 (.int .i64 a0_0)
           have hcz30_1 := cz BK143.out 1 (.int .i64 a0_1)
           have hcz30_2 := cz BK143.out 2 (.int .i64 a0_2)
           have hcz30_3 := cz BK143.out 3 (.int .i64 a0_3)
           have hcz30_4 := cz BK143.out 4 (.int .i64 a0_4)
           have hcz30_5 := cz BK143.out 5 (.int .i64 a0_5)
           have hcz30_6 := cz BK143.out 6 (.int .i64 a0_6)
           have hcz30_7 := cz BK143.out 7 (.int .i64 a0_7)
           have hcz30_8 := cz BK143.out 8 (.int .i64 a0_8)
           have hcz30_9 := cz BK143.out 9 (.int .i64 a0_9)
           have hcz30_10 := cz BK143.out 10 (.int .i64 a0_10)
           have hcz30_11 := cz BK143.out 11 (.int .i64 a0_11)
           have hcz30_12 := cz BK143.out 12 (.int .i64 a0_12)
           have hcz30_13 := cz BK143.out 13 (.int .i64 a0_13)
           have hcz30_14 := cz BK143.out 14 (.int .i64 a0_14)
           have hcz30_15 := cz BK143.out 15 (.int .i64 a0_15)
           have hcz30_16 := cz BK143.out 16 (.int .i64 a0_16)
           have hcz30_17 := cz BK143.out 17 (.int .i64 a0_17)
           have hcz30_18 := cz BK143.out 18 (.int .i64 a0_18)
           go_wp2_with (first | ((with_reducible refine gate_dst (N := 20) rfl ?_); (try refine gate_guard (by rfl) ?_); refine ldw 30 (.tmp 1) rfl rfl rfl by6 Try.underlying30 rfl by5 ?_) | ((with_reducible refine gate_dst (N := 62) rfl ?_); (try refine gate_guard (by rfl) ?_); refine ldw 30 (.tmp 1) rfl rfl rfl by6 Try.underlying30 rfl by5 ?_) | (go_at_call 56; (with_reducible refine (spec_l01In.calls a0_2 0 15 t149 _ A29.out).mono ?_); rintro e w' ⟨rfl, ⟨nd, rfl⟩⟩))
           go_meet
           case rel => exact ⟨_, (!t149), by11, H', ⟨by have := HJ1.out; have := HJ13.out; first | omega | exact Nat.le_refl _⟩, ⟨by (with_reducible repeat (first | refine blk_drewN ?_ _ | refine blk_drew ?_ | refine blk_alloc ?_ _)); exact BK143.out⟩, ⟨by repeat (first | (with_reducible first | exact HB.out | apply below_alloc | apply pw_below_drewN | apply below_drew1 | refine below_set ?_ GE143.out) | exact HB.out)⟩⟩
          ·rw [if_neg c28] at H
           have c28b0 : (a0_0 == 36) = false := beq_eq_false_iff_ne.mpr c28
           have c28b1 : (a0_0 != 36) = true := bne_iff_ne.mpr c28
           by_cases c31 : a0_2 = 0
           ·rw [if_pos c31] at H
            have c31b0 : (a0_2 == 0) = true := beq_iff_eq.mpr c31
            have c31b1 : (a0_2 != 0) = false := bne_eq_false_iff_eq.mpr c31
            clear c31
            replace H := Option.bind_eq_some_iff.mp H
            obtain ⟨t150, A320, H⟩ := H
            replace H : (spec_l05OK.j2 kj13 (!t150) a0_0 a0_1 a0_2 a0_3 a0_4 a0_5 a0_6 a0_7 a0_8 a0_9 a0_10 a0_11 a0_12 a0_13 a0_14 a0_15 a0_16 a0_17 a0_18) = some r := H
            have A32 := Aside0.mk A320
            clear A320
            have H' := Aside0.mk H
            clear H
            have hcz33_0 := cz BK143.out 0 (.int .i64 a0_0)
            have hcz33_1 := cz BK143.out 1 (.int .i64 a0_1)
            have hcz33_2 := cz BK143.out 2 (.int .i64 a0_2)
            have hcz33_3 := cz BK143.out 3 (.int .i64 a0_3)
            have hcz33_4 := cz BK143.out 4 (.int .i64 a0_4)
            have hcz33_5 := cz BK143.out 5 (.int .i64 a0_5)
            have hcz33_6 := cz BK143.out 6 (.int .i64 a0_6)
            have hcz33_7 := cz BK143.out 7 (.int .i64 a0_7)
            have hcz33_8 := cz BK143.out 8 (.int .i64 a0_8)
            have hcz33_9 := cz BK143.out 9 (.int .i64 a0_9)
            have hcz33_10 := cz BK143.out 10 (.int .i64 a0_10)
            have hcz33_11 := cz BK143.out 11 (.int .i64 a0_11)
            have hcz33_12 := cz BK143.out 12 (.int .i64 a0_12)
            have hcz33_13 := cz BK143.out 13 (.int .i64 a0_13)
            have hcz33_14 := cz BK143.out 14 (.int .i64 a0_14)
            have hcz33_15 := cz BK143.out 15 (.int .i64 a0_15)
            have hcz33_16 := cz BK143.out 16 (.int .i64 a0_16)
            have hcz33_17 := cz BK143.out 17 (.int .i64 a0_17)
            have hcz33_18 := cz BK143.out 18 (.int .i64 a0_18)
            go_wp2_with (first | ((with_reducible refine gate_dst (N := 20) rfl ?_); (try refine gate_guard (by rfl) ?_); refine ldw 30 (.tmp 1) rfl rfl rfl by6 Try.underlying30 rfl by5 ?_) | ((with_reducible refine gate_dst (N := 62) rfl ?_); (try refine gate_guard (by rfl) ?_); refine ldw 30 (.tmp 1) rfl rfl rfl by6 Try.underlying30 rfl by5 ?_) | (go_at_call 56; (with_reducible refine (spec_l01In.calls a0_2 0 15 t150 _ A32.out).mono ?_); rintro e w' ⟨rfl, ⟨nd, rfl⟩⟩))
            go_meet
            case rel => exact ⟨_, (!t150), by11, H', ⟨by have := HJ1.out; have := HJ13.out; first | omega | exact Nat.le_refl _⟩, ⟨by (with_reducible repeat (first | refine blk_drewN ?_ _ | refine blk_drew ?_ | refine blk_alloc ?_ _)); exact BK143.out⟩, ⟨by repeat (first | (with_reducible first | exact HB.out | apply below_alloc | apply pw_below_drewN | apply below_drew1 | refine below_set ?_ GE143.out) | exact HB.out)⟩⟩
           ·rw [if_neg c31] at H
            have c31b0 : (a0_2 == 0) = false := beq_eq_false_iff_ne.mpr c31
            have c31b1 : (a0_2 != 0) = true := bne_iff_ne.mpr c31
            have H' := Aside0.mk H
            clear H
            have hcz34_0 := cz BK143.out 0 (.int .i64 a0_0)
            have hcz34_1 := cz BK143.out 1 (.int .i64 a0_1)
            have hcz34_2 := cz BK143.out 2 (.int .i64 a0_2)
            have hcz34_3 := cz BK143.out 3 (.int .i64 a0_3)
            have hcz34_4 := cz BK143.out 4 (.int .i64 a0_4)
            have hcz34_5 := cz BK143.out 5 (.int .i64 a0_5)
            have hcz34_6 := cz BK143.out 6 (.int .i64 a0_6)
            have hcz34_7 := cz BK143.out 7 (.int .i64 a0_7)
            have hcz34_8 := cz BK143.out 8 (.int .i64 a0_8)
            have hcz34_9 := cz BK143.out 9 (.int .i64 a0_9)
            have hcz34_10 := cz BK143.out 10 (.int .i64 a0_10)
            have hcz34_11 := cz BK143.out 11 (.int .i64 a0_11)
            have hcz34_12 := cz BK143.out 12 (.int .i64 a0_12)
            have hcz34_13 := cz BK143.out 13 (.int .i64 a0_13)
            have hcz34_14 := cz BK143.out 14 (.int .i64 a0_14)
            have hcz34_15 := cz BK143.out 15 (.int .i64 a0_15)
            have hcz34_16 := cz BK143.out 16 (.int .i64 a0_16)
            have hcz34_17 := cz BK143.out 17 (.int .i64 a0_17)
            have hcz34_18 := cz BK143.out 18 (.int .i64 a0_18)
            go_wp2_with (first | ((with_reducible refine gate_dst (N := 20) rfl ?_); (try refine gate_guard (by rfl) ?_); refine ldw 30 (.tmp 1) rfl rfl rfl by6 Try.underlying30 rfl by5 ?_) | ((with_reducible refine gate_dst (N := 62) rfl ?_); (try refine gate_guard (by rfl) ?_); refine ldw 30 (.tmp 1) rfl rfl rfl by6 Try.underlying30 rfl by5 ?_))
            go_meet
            case rel => exact ⟨_, (true), by11, H', ⟨by have := HJ1.out; have := HJ13.out; first | omega | exact Nat.le_refl _⟩, ⟨by (with_reducible repeat (first | refine blk_drewN ?_ _ | refine blk_drew ?_ | refine blk_alloc ?_ _)); exact BK143.out⟩, ⟨by repeat (first | (with_reducible first | exact HB.out | apply below_alloc | apply pw_below_drewN | apply below_drew1 | refine below_set ?_ GE143.out) | exact HB.out)⟩⟩
       case rest =>
        clear HC21
        (try clear c5); (try clear c7); (try clear c13); (try clear c15); (try clear c15b0); (try clear c15b1); (try clear c17); (try clear c17b0); (try clear c17b1); (try clear c20); (try clear c22); (try clear c22b0); (try clear c22b1); (try clear c25); (try clear c25b0); (try clear c25b1); (try clear c28); (try clear c28b0); (try clear c28b1); (try clear c31); (try clear c31b0); (try clear c31b1); (try clear hcz11_0); (try clear hcz11_1); (try clear hcz11_10); (try clear hcz11_11); (try clear hcz11_12); (try clear hcz11_13); (try clear hcz11_14); (try clear hcz11_15); (try clear hcz11_16); (try clear hcz11_17); (try clear hcz11_18); (try clear hcz11_2); (try clear hcz11_3); (try clear hcz11_4); (try clear hcz11_5); (try clear hcz11_6); (try clear hcz11_7); (try clear hcz11_8); (try clear hcz11_9); (try clear hcz12_0); (try clear hcz12_1); (try clear hcz12_10); (try clear hcz12_11); (try clear hcz12_12); (try clear hcz12_13); (try clear hcz12_14); (try clear hcz12_15); (try clear hcz12_16); (try clear hcz12_17); (try clear hcz12_18); (try clear hcz12_2); (try clear hcz12_3); (try clear hcz12_4); (try clear hcz12_5); (try clear hcz12_6); (try clear hcz12_7); (try clear hcz12_8); (try clear hcz12_9); (try clear hcz16_0); (try clear hcz16_1); (try clear hcz16_10); (try clear hcz16_11); (try clear hcz16_12); (try clear hcz16_13); (try clear hcz16_14); (try clear hcz16_15); (try clear hcz16_16); (try clear hcz16_17); (try clear hcz16_18); (try clear hcz16_2); (try clear hcz16_3); (try clear hcz16_4); (try clear hcz16_5); (try clear hcz16_6); (try clear hcz16_7); (try clear hcz16_8); (try clear hcz16_9); (try clear hcz18_0); (try clear hcz18_1); (try clear hcz18_10); (try clear hcz18_11); (try clear hcz18_12); (try clear hcz18_13); (try clear hcz18_14); (try clear hcz18_15); (try clear hcz18_16); (try clear hcz18_17); (try clear hcz18_18); (try clear hcz18_2); (try clear hcz18_3); (try clear hcz18_4); (try clear hcz18_5); (try clear hcz18_6); (try clear hcz18_7); (try clear hcz18_8); (try clear hcz18_9); (try clear hcz19_0); (try clear hcz19_1); (try clear hcz19_10); (try clear hcz19_11); (try clear hcz19_12); (try clear hcz19_13); (try clear hcz19_14); (try clear hcz19_15); (try clear hcz19_16); (try clear hcz19_17); (try clear hcz19_18); (try clear hcz19_2); (try clear hcz19_3); (try clear hcz19_4); (try clear hcz19_5); (try clear hcz19_6); (try clear hcz19_7); (try clear hcz19_8); (try clear hcz19_9); (try clear hcz24_0); (try clear hcz24_1); (try clear hcz24_10); (try clear hcz24_11); (try clear hcz24_12); (try clear hcz24_13); (try clear hcz24_14); (try clear hcz24_15); (try clear hcz24_16); (try clear hcz24_17); (try clear hcz24_18); (try clear hcz24_2); (try clear hcz24_3); (try clear hcz24_4); (try clear hcz24_5); (try clear hcz24_6); (try clear hcz24_7); (try clear hcz24_8); (try clear hcz24_9); (try clear hcz27_0); (try clear hcz27_1); (try clear hcz27_10); (try clear hcz27_11); (try clear hcz27_12); (try clear hcz27_13); (try clear hcz27_14); (try clear hcz27_15); (try clear hcz27_16); (try clear hcz27_17); (try clear hcz27_18); (try clear hcz27_2); (try clear hcz27_3); (try clear hcz27_4); (try clear hcz27_5); (try clear hcz27_6); (try clear hcz27_7); (try clear hcz27_8); (try clear hcz27_9); (try clear hcz30_0); (try clear hcz30_1); (try clear hcz30_10); (try clear hcz30_11); (try clear hcz30_12); (try clear hcz30_13); (try clear hcz30_14); (try clear hcz30_15); (try clear hcz30_16); (try clear hcz30_17); (try clear hcz30_18); (try clear hcz30_2); (try clear hcz30_3); (try clear hcz30_4); (try clear hcz30_5); (try clear hcz30_6); (try clear hcz30_7); (try clear hcz30_8); (try clear hcz30_9); (try clear hcz33_0); (try clear hcz33_1); (try clear hcz33_10); (try clear hcz33_11); (try clear hcz33_12); (try clear hcz33_13); (try clear hcz33_14); (try clear hcz33_15); (try clear hcz33_16); (try clear hcz33_17); (try clear hcz33_18); (try clear hcz33_2); (try clear hcz33_3); (try clear hcz33_4); (try clear hcz33_5); (try clear hcz33_6); (try clear hcz33_7); (try clear hcz33_8); (try clear hcz33_9); (try clear hcz34_0); (try clear hcz34_1); (try clear hcz34_10); (try clear hcz34_11); (try clear hcz34_12); (try clear hcz34_13); (try clear hcz34_14); (try clear hcz34_15); (try clear hcz34_16); (try clear hcz34_17); (try clear hcz34_18); (try clear hcz34_2); (try clear hcz34_3); (try clear hcz34_4); (try clear hcz34_5); (try clear hcz34_6); (try clear hcz34_7); (try clear hcz34_8); (try clear hcz34_9); (try clear hcz9_0); (try clear hcz9_1); (try clear hcz9_10); (try clear hcz9_11); (try clear hcz9_12); (try clear hcz9_13); (try clear hcz9_14); (try clear hcz9_15); (try clear hcz9_16); (try clear hcz9_17); (try clear hcz9_18); (try clear hcz9_2); (try clear hcz9_3); (try clear hcz9_4); (try clear hcz9_5); (try clear hcz9_6); (try clear hcz9_7); (try clear hcz9_8); (try clear hcz9_9)
        obtain ⟨kq, x60_20, rfl, HA, HJ20, BK143, HB⟩ := hcut
        cases kq with
        | zero => exact absurd HA.out (by simp [spec_l05OK.j2])
        | succ kj20 =>
         have H := HA.out
         clear HA
         simp only [spec_l05OK.j2] at H
         by_cases c35 : x60_20 = true
         ·subst c35
          have H1 : (some false) = some r := by rw [if_pos rfl] at H; exact H
          clear H
          have H := H1
          clear H1
          exact spec_l05OK.e0
         ·replace c35 := Bool.eq_false_iff.mpr c35
          subst c35
          have H1 : ((spec_l05Sizes.f a0_0 a0_1 a0_2 a0_3 a0_4 a0_5 a0_6 a0_7 a0_8 a0_9 a0_10 a0_11 a0_12 a0_13 a0_14 a0_15 a0_16 a0_17 a0_18).bind fun bt151 => ((spec_l04Operand.f a0_4 a0_5 a0_6 a0_7 a0_8 a0_9 a0_10 bt151.1).bind fun t153 => (if t153 = true then ((spec_l04Operand.f a0_11 a0_12 a0_13 a0_14 a0_15 a0_16 a0_17 bt151.2).bind fun t154 => (spec_l05OK.j3 kj20 bt151.1 bt151.2 (!t154) a0_0 a0_1 a0_2 a0_3 a0_4 a0_5 a0_6 a0_7 a0_8 a0_9 a0_10 a0_11 a0_12 a0_13 a0_14 a0_15 a0_16 a0_17 a0_18)) else (spec_l05OK.j3 kj20 bt151.1 bt151.2 true a0_0 a0_1 a0_2 a0_3 a0_4 a0_5 a0_6 a0_7 a0_8 a0_9 a0_10 a0_11 a0_12 a0_13 a0_14 a0_15 a0_16 a0_17 a0_18)))) = some r := by rw [if_neg (show ¬ (false = true) by decide)] at H; exact H
          clear H
          have H := H1
          clear H1
          replace H := Option.bind_eq_some_iff.mp H
          obtain ⟨⟨t151, t152⟩, A360, H⟩ := H
          replace H : ((spec_l04Operand.f a0_4 a0_5 a0_6 a0_7 a0_8 a0_9 a0_10 t151).bind fun t153 => (if t153 = true then ((spec_l04Operand.f a0_11 a0_12 a0_13 a0_14 a0_15 a0_16 a0_17 t152).bind fun t154 => (spec_l05OK.j3 kj20 t151 t152 (!t154) a0_0 a0_1 a0_2 a0_3 a0_4 a0_5 a0_6 a0_7 a0_8 a0_9 a0_10 a0_11 a0_12 a0_13 a0_14 a0_15 a0_16 a0_17 a0_18)) else (spec_l05OK.j3 kj20 t151 t152 true a0_0 a0_1 a0_2 a0_3 a0_4 a0_5 a0_6 a0_7 a0_8 a0_9 a0_10 a0_11 a0_12 a0_13 a0_14 a0_15 a0_16 a0_17 a0_18))) = some r := H
          have A36 := Aside0.mk A360
          clear A360
          have HC37 := Aside0.mk H
          clear H
          have hcz38_0 := cz BK143.out 0 (.int .i64 a0_0)
          have hcz38_1 := cz BK143.out 1 (.int .i64 a0_1)
          have hcz38_2 := cz BK143.out 2 (.int .i64 a0_2)
          have hcz38_3 := cz BK143.out 3 (.int .i64 a0_3)
          have hcz38_4 := cz BK143.out 4 (.int .i64 a0_4)
          have hcz38_5 := cz BK143.out 5 (.int .i64 a0_5)
          have hcz38_6 := cz BK143.out 6 (.int .i64 a0_6)
          have hcz38_7 := cz BK143.out 7 (.int .i64 a0_7)
          have hcz38_8 := cz BK143.out 8 (.int .i64 a0_8)
          have hcz38_9 := cz BK143.out 9 (.int .i64 a0_9)
          have hcz38_10 := cz BK143.out 10 (.int .i64 a0_10)
          have hcz38_11 := cz BK143.out 11 (.int .i64 a0_11)
          have hcz38_12 := cz BK143.out 12 (.int .i64 a0_12)
          have hcz38_13 := cz BK143.out 13 (.int .i64 a0_13)
          have hcz38_14 := cz BK143.out 14 (.int .i64 a0_14)
          have hcz38_15 := cz BK143.out 15 (.int .i64 a0_15)
          have hcz38_16 := cz BK143.out 16 (.int .i64 a0_16)
          have hcz38_17 := cz BK143.out 17 (.int .i64 a0_17)
          have hcz38_18 := cz BK143.out 18 (.int .i64 a0_18)
          go_upto_region 8 with (first | ((with_reducible refine gate_dst (N := 20) rfl ?_); (try refine gate_guard (by rfl) ?_); refine ldw 30 (.tmp 1) rfl rfl rfl by6 Try.underlying30 rfl by5 ?_) | ((with_reducible refine gate_dst (N := 62) rfl ?_); (try refine gate_guard (by rfl) ?_); refine ldw 30 (.tmp 1) rfl rfl rfl by6 Try.underlying30 rfl by5 ?_) | ((with_reducible refine gate_callee (f := 97) rfl ?_); refine goesL_ (some 63) rfl rfl Try.func97 by5 rfl #[.agg #[.int .i64 a0_0, .int .i64 a0_1, .int .i64 a0_2, .int .i64 a0_3, .int .i64 a0_4, .int .i64 a0_5, .int .i64 a0_6, .int .i64 a0_7, .int .i64 a0_8, .int .i64 a0_9, .int .i64 a0_10, .int .i64 a0_11, .int .i64 a0_12, .int .i64 a0_13, .int .i64 a0_14, .int .i64 a0_15, .int .i64 a0_16, .int .i64 a0_17, .int .i64 a0_18]] rfl by2 ?_; (with_reducible refine (spec_l05Sizes.calls a0_0 a0_1 a0_2 a0_3 a0_4 a0_5 a0_6 a0_7 a0_8 a0_9 a0_10 a0_11 a0_12 a0_13 a0_14 a0_15 a0_16 a0_17 a0_18 t151 t152 _ A36.out).mono ?_); rintro e w39 ⟨rfl, hb⟩; refine ⟨_, rfl, ?_⟩; have n0_ := Aside0.mk (blk_below (g := gb143) (o := .cells #[.int .i64 a0_0, .int .i64 a0_1, .int .i64 a0_2, .int .i64 a0_3, .int .i64 a0_4, .int .i64 a0_5, .int .i64 a0_6, .int .i64 a0_7, .int .i64 a0_8, .int .i64 a0_9, .int .i64 a0_10, .int .i64 a0_11, .int .i64 a0_12, .int .i64 a0_13, .int .i64 a0_14, .int .i64 a0_15, .int .i64 a0_16, .int .i64 a0_17, .int .i64 a0_18] 30 (0, 0)) by6 hb); have n1_ := Aside0.mk (below_step by12 hb); clear BK143; clear HB; have BK143 := n0_; have HB := n1_; clear n0_ n1_; (try clear hb); (try clear hb2); (try clear hk); (try clear hi)))
          (try simp only [Act.put, List.setIfInBounds_toArray, List.set_cons_zero, List.set_cons_succ])
          go_cut [77] (fun v77 wc => ∃ (kq : Nat) (x77_36 : Bool), v77 = .bool x77_36 ∧ Aside0 (spec_l05OK.j3 kq t151 t152 x77_36 a0_0 a0_1 a0_2 a0_3 a0_4 a0_5 a0_6 a0_7 a0_8 a0_9 a0_10 a0_11 a0_12 a0_13 a0_14 a0_15 a0_16 a0_17 a0_18 = some r) ∧ Aside0 (kq ≤ kj20) ∧ Aside0 (wc.heap[gb143]? = some (.cells #[.int .i64 a0_0, .int .i64 a0_1, .int .i64 a0_2, .int .i64 a0_3, .int .i64 a0_4, .int .i64 a0_5, .int .i64 a0_6, .int .i64 a0_7, .int .i64 a0_8, .int .i64 a0_9, .int .i64 a0_10, .int .i64 a0_11, .int .i64 a0_12, .int .i64 a0_13, .int .i64 a0_14, .int .i64 a0_15, .int .i64 a0_16, .int .i64 a0_17, .int .i64 a0_18] 30 (0, 0))) ∧ Aside0 (Below w.heap.size w wc))
          case first =>
           have H := HC37.out
           clear HC37
           replace H := Option.bind_eq_some_iff.mp H
           obtain ⟨t153, A400, H⟩ := H
           replace H : (if t153 = true then ((spec_l04Operand.f a0_11 a0_12 a0_13 a0_14 a0_15 a0_16 a0_17 t152).bind fun t154 => (spec_l05OK.j3 kj20 t151 t152 (!t154) a0_0 a0_1 a0_2 a0_3 a0_4 a0_5 a0_6 a0_7 a0_8 a0_9 a0_10 a0_11 a0_12 a0_13 a0_14 a0_15 a0_16 a0_17 a0_18)) else (spec_l05OK.j3 kj20 t151 t152 true a0_0 a0_1 a0_2 a0_3 a0_4 a0_5 a0_6 a0_7 a0_8 a0_9 a0_10 a0_11 a0_12 a0_13 a0_14 a0_15 a0_16 a0_17 a0_18)) = some r := H
           have A40 := Aside0.mk A400
           clear A400
           by_cases c41 : t153 = true
           ·subst c41
            have H1 : ((spec_l04Operand.f a0_11 a0_12 a0_13 a0_14 a0_15 a0_16 a0_17 t152).bind fun t154 => (spec_l05OK.j3 kj20 t151 t152 (!t154) a0_0 a0_1 a0_2 a0_3 a0_4 a0_5 a0_6 a0_7 a0_8 a0_9 a0_10 a0_11 a0_12 a0_13 a0_14 a0_15 a0_16 a0_17 a0_18)) = some r := by rw [if_pos rfl] at H; exact H
            clear H
            have H := H1
            clear H1
            replace H := Option.bind_eq_some_iff.mp H
            obtain ⟨t154, A420, H⟩ := H
            replace H : (spec_l05OK.j3 kj20 t151 t152 (!t154) a0_0 a0_1 a0_2 a0_3 a0_4 a0_5 a0_6 a0_7 a0_8 a0_9 a0_10 a0_11 a0_12 a0_13 a0_14 a0_15 a0_16 a0_17 a0_18) = some r := H
            have A42 := Aside0.mk A420
            clear A420
            have H' := Aside0.mk H
            clear H
            have hcz43_0 := cz BK143.out 0 (.int .i64 a0_0)
            have hcz43_1 := cz BK143.out 1 (.int .i64 a0_1)
            have hcz43_2 := cz BK143.out 2 (.int .i64 a0_2)
            have hcz43_3 := cz BK143.out 3 (.int .i64 a0_3)
            have hcz43_4 := cz BK143.out 4 (.int .i64 a0_4)
            have hcz43_5 := cz BK143.out 5 (.int .i64 a0_5)
            have hcz43_6 := cz BK143.out 6 (.int .i64 a0_6)
            have hcz43_7 := cz BK143.out 7 (.int .i64 a0_7)
            have hcz43_8 := cz BK143.out 8 (.int .i64 a0_8)
            have hcz43_9 := cz BK143.out 9 (.int .i64 a0_9)
            have hcz43_10 := cz BK143.out 10 (.int .i64 a0_10)
            have hcz43_11 := cz BK143.out 11 (.int .i64 a0_11)
            have hcz43_12 := cz BK143.out 12 (.int .i64 a0_12)
            have hcz43_13 := cz BK143.out 13 (.int .i64 a0_13)
            have hcz43_14 := cz BK143.out 14 (.int .i64 a0_14)
            have hcz43_15 := cz BK143.out 15 (.int .i64 a0_15)
            have hcz43_16 := cz BK143.out 16 (.int .i64 a0_16)
            have hcz43_17 := cz BK143.out 17 (.int .i64 a0_17)
            have hcz43_18 := cz BK143.out 18 (.int .i64 a0_18)
            go_wp2_with (first | ((with_reducible refine gate_dst (N := 20) rfl ?_); (try refine gate_guard (by rfl) ?_); refine ldw 30 (.tmp 1) rfl rfl rfl by6 Try.underlying30 rfl by5 ?_) | ((with_reducible refine gate_dst (N := 62) rfl ?_); (try refine gate_guard (by rfl) ?_); refine ldw 30 (.tmp 1) rfl rfl rfl by6 Try.underlying30 rfl by5 ?_) | ((with_reducible refine gate_callee (f := 98) rfl ?_); refine goesL_ (some 69) rfl rfl Try.func98 by5 rfl #[.agg #[.int .i64 a0_4, .int .i64 a0_5, .int .i64 a0_6, .int .i64 a0_7, .int .i64 a0_8, .int .i64 a0_9, .int .i64 a0_10], .int .i64 t151] rfl by2 ?_; (with_reducible refine (spec_l04Operand.calls a0_4 a0_5 a0_6 a0_7 a0_8 a0_9 a0_10 t151 true _ A40.out).mono ?_); rintro e w44 ⟨rfl, hb⟩; refine ⟨_, rfl, ?_⟩; have n0_ := Aside0.mk (blk_below (g := gb143) (o := .cells #[.int .i64 a0_0, .int .i64 a0_1, .int .i64 a0_2, .int .i64 a0_3, .int .i64 a0_4, .int .i64 a0_5, .int .i64 a0_6, .int .i64 a0_7, .int .i64 a0_8, .int .i64 a0_9, .int .i64 a0_10, .int .i64 a0_11, .int .i64 a0_12, .int .i64 a0_13, .int .i64 a0_14, .int .i64 a0_15, .int .i64 a0_16, .int .i64 a0_17, .int .i64 a0_18] 30 (0, 0)) by6 hb); have n1_ := Aside0.mk (below_step by12 hb); clear BK143; clear HB; have BK143 := n0_; have HB := n1_; clear n0_ n1_; (try clear hb); (try clear hb2); (try clear hk); (try clear hi); have hcz45_0 := cz BK143.out 0 (.int .i64 a0_0); have hcz45_1 := cz BK143.out 1 (.int .i64 a0_1); have hcz45_2 := cz BK143.out 2 (.int .i64 a0_2); have hcz45_3 := cz BK143.out 3 (.int .i64 a0_3); have hcz45_4 := cz BK143.out 4 (.int .i64 a0_4); have hcz45_5 := cz BK143.out 5 (.int .i64 a0_5); have hcz45_6 := cz BK143.out 6 (.int .i64 a0_6); have hcz45_7 := cz BK143.out 7 (.int .i64 a0_7); have hcz45_8 := cz BK143.out 8 (.int .i64 a0_8); have hcz45_9 := cz BK143.out 9 (.int .i64 a0_9); have hcz45_10 := cz BK143.out 10 (.int .i64 a0_10); have hcz45_11 := cz BK143.out 11 (.int .i64 a0_11); have hcz45_12 := cz BK143.out 12 (.int .i64 a0_12); have hcz45_13 := cz BK143.out 13 (.int .i64 a0_13); have hcz45_14 := cz BK143.out 14 (.int .i64 a0_14); have hcz45_15 := cz BK143.out 15 (.int .i64 a0_15); have hcz45_16 := cz BK143.out 16 (.int .i64 a0_16); have hcz45_17 := cz BK143.out 17 (.int .i64 a0_17); have hcz45_18 := cz BK143.out 18 (.int .i64 a0_18)) | (go_at_call 98; (with_reducible refine (spec_l04Operand.calls a0_11 a0_12 a0_13 a0_14 a0_15 a0_16 a0_17 t152 t154 _ A42.out).mono ?_); rintro e w46 ⟨rfl, hb⟩; have n0_ := Aside0.mk (blk_below (g := gb143) (o := .cells #[.int .i64 a0_0, .int .i64 a0_1, .int .i64 a0_2, .int .i64 a0_3, .int .i64 a0_4, .int .i64 a0_5, .int .i64 a0_6, .int .i64 a0_7, .int .i64 a0_8, .int .i64 a0_9, .int .i64 a0_10, .int .i64 a0_11, .int .i64 a0_12, .int .i64 a0_13, .int .i64 a0_14, .int .i64 a0_15, .int .i64 a0_16, .int .i64 a0_17, .int .i64 a0_18] 30 (0, 0)) by6 hb); have n1_ := Aside0.mk (below_step by12 hb); clear BK143; clear HB; have BK143 := n0_; have HB := n1_; clear n0_ n1_; (try clear hb); (try clear hb2); (try clear hk); (try clear hi)))
            go_meet
            case rel => exact ⟨_, (!t154), by11, H', ⟨by have := HJ1.out; have := HJ13.out; have := HJ20.out; first | omega | exact Nat.le_refl _⟩, ⟨by (with_reducible repeat (first | refine blk_drewN ?_ _ | refine blk_drew ?_ | refine blk_alloc ?_ _)); exact BK143.out⟩, ⟨by repeat (first | (with_reducible first | exact HB.out | apply below_alloc | apply pw_below_drewN | apply below_drew1 | refine below_set ?_ GE143.out) | exact HB.out)⟩⟩
           ·replace c41 := Bool.eq_false_iff.mpr c41
            subst c41
            have H1 : (spec_l05OK.j3 kj20 t151 t152 true a0_0 a0_1 a0_2 a0_3 a0_4 a0_5 a0_6 a0_7 a0_8 a0_9 a0_10 a0_11 a0_12 a0_13 a0_14 a0_15 a0_16 a0_17 a0_18) = some r := by rw [if_neg (show ¬ (false = true) by decide)] at H; exact H
            clear H
            have H := H1
            clear H1
            have H' := Aside0.mk H
            clear H
            have hcz47_0 := cz BK143.out 0 (.int .i64 a0_0)
            have hcz47_1 := cz BK143.out 1 (.int .i64 a0_1)
            have hcz47_2 := cz BK143.out 2 (.int .i64 a0_2)
            have hcz47_3 := cz BK143.out 3 (.int .i64 a0_3)
            have hcz47_4 := cz BK143.out 4 (.int .i64 a0_4)
            have hcz47_5 := cz BK143.out 5 (.int .i64 a0_5)
            have hcz47_6 := cz BK143.out 6 (.int .i64 a0_6)
            have hcz47_7 := cz BK143.out 7 (.int .i64 a0_7)
            have hcz47_8 := cz BK143.out 8 (.int .i64 a0_8)
            have hcz47_9 := cz BK143.out 9 (.int .i64 a0_9)
            have hcz47_10 := cz BK143.out 10 (.int .i64 a0_10)
            have hcz47_11 := cz BK143.out 11 (.int .i64 a0_11)
            have hcz47_12 := cz BK143.out 12 (.int .i64 a0_12)
            have hcz47_13 := cz BK143.out 13 (.int .i64 a0_13)
            have hcz47_14 := cz BK143.out 14 (.int .i64 a0_14)
            have hcz47_15 := cz BK143.out 15 (.int .i64 a0_15)
            have hcz47_16 := cz BK143.out 16 (.int .i64 a0_16)
            have hcz47_17 := cz BK143.out 17 (.int .i64 a0_17)
            have hcz47_18 := cz BK143.out 18 (.int .i64 a0_18)
            go_wp2_with (first | ((with_reducible refine gate_dst (N := 20) rfl ?_); (try refine gate_guard (by rfl) ?_); refine ldw 30 (.tmp 1) rfl rfl rfl by6 Try.underlying30 rfl by5 ?_) | ((with_reducible refine gate_dst (N := 62) rfl ?_); (try refine gate_guard (by rfl) ?_); refine ldw 30 (.tmp 1) rfl rfl rfl by6 Try.underlying30 rfl by5 ?_) | ((with_reducible refine gate_callee (f := 98) rfl ?_); refine goesL_ (some 69) rfl rfl Try.func98 by5 rfl #[.agg #[.int .i64 a0_4, .int .i64 a0_5, .int .i64 a0_6, .int .i64 a0_7, .int .i64 a0_8, .int .i64 a0_9, .int .i64 a0_10], .int .i64 t151] rfl by2 ?_; (with_reducible refine (spec_l04Operand.calls a0_4 a0_5 a0_6 a0_7 a0_8 a0_9 a0_10 t151 false _ A40.out).mono ?_); rintro e w48 ⟨rfl, hb⟩; refine ⟨_, rfl, ?_⟩; have n0_ := Aside0.mk (blk_below (g := gb143) (o := .cells #[.int .i64 a0_0, .int .i64 a0_1, .int .i64 a0_2, .int .i64 a0_3, .int .i64 a0_4, .int .i64 a0_5, .int .i64 a0_6, .int .i64 a0_7, .int .i64 a0_8, .int .i64 a0_9, .int .i64 a0_10, .int .i64 a0_11, .int .i64 a0_12, .int .i64 a0_13, .int .i64 a0_14, .int .i64 a0_15, .int .i64 a0_16, .int .i64 a0_17, .int .i64 a0_18] 30 (0, 0)) by6 hb); have n1_ := Aside0.mk (below_step by12 hb); clear BK143; clear HB; have BK143 := n0_; have HB := n1_; clear n0_ n1_; (try clear hb); (try clear hb2); (try clear hk); (try clear hi)))
            go_meet
            case rel => exact ⟨_, (true), by11, H', ⟨by have := HJ1.out; have := HJ13.out; have := HJ20.out; first | omega | exact Nat.le_refl _⟩, ⟨by (with_reducible repeat (first | refine blk_drewN ?_ _ | refine blk_drew ?_ | refine blk_alloc ?_ _)); exact BK143.out⟩, ⟨by repeat (first | (with_reducible first | exact HB.out | apply below_alloc | apply pw_below_drewN | apply below_drew1 | refine below_set ?_ GE143.out) | exact HB.out)⟩⟩
          case rest =>
           clear HC37
           (try clear c5); (try clear c7); (try clear c13); (try clear c15); (try clear c15b0); (try clear c15b1); (try clear c17); (try clear c17b0); (try clear c17b1); (try clear c20); (try clear c22); (try clear c22b0); (try clear c22b1); (try clear c25); (try clear c25b0); (try clear c25b1); (try clear c28); (try clear c28b0); (try clear c28b1); (try clear c31); (try clear c31b0); (try clear c31b1); (try clear c35); (try clear c41); (try clear hcz11_0); (try clear hcz11_1); (try clear hcz11_10); (try clear hcz11_11); (try clear hcz11_12); (try clear hcz11_13); (try clear hcz11_14); (try clear hcz11_15); (try clear hcz11_16); (try clear hcz11_17); (try clear hcz11_18); (try clear hcz11_2); (try clear hcz11_3); (try clear hcz11_4); (try clear hcz11_5); (try clear hcz11_6); (try clear hcz11_7); (try clear hcz11_8); (try clear hcz11_9); (try clear hcz12_0); (try clear hcz12_1); (try clear hcz12_10); (try clear hcz12_11); (try clear hcz12_12); (try clear hcz12_13); (try clear hcz12_14); (try clear hcz12_15); (try clear hcz12_16); (try clear hcz12_17); (try clear hcz12_18); (try clear hcz12_2); (try clear hcz12_3); (try clear hcz12_4); (try clear hcz12_5); (try clear hcz12_6); (try clear hcz12_7); (try clear hcz12_8); (try clear hcz12_9); (try clear hcz16_0); (try clear hcz16_1); (try clear hcz16_10); (try clear hcz16_11); (try clear hcz16_12); (try clear hcz16_13); (try clear hcz16_14); (try clear hcz16_15); (try clear hcz16_16); (try clear hcz16_17); (try clear hcz16_18); (try clear hcz16_2); (try clear hcz16_3); (try clear hcz16_4); (try clear hcz16_5); (try clear hcz16_6); (try clear hcz16_7); (try clear hcz16_8); (try clear hcz16_9); (try clear hcz18_0); (try clear hcz18_1); (try clear hcz18_10); (try clear hcz18_11); (try clear hcz18_12); (try clear hcz18_13); (try clear hcz18_14); (try clear hcz18_15); (try clear hcz18_16); (try clear hcz18_17); (try clear hcz18_18); (try clear hcz18_2); (try clear hcz18_3); (try clear hcz18_4); (try clear hcz18_5); (try clear hcz18_6); (try clear hcz18_7); (try clear hcz18_8); (try clear hcz18_9); (try clear hcz19_0); (try clear hcz19_1); (try clear hcz19_10); (try clear hcz19_11); (try clear hcz19_12); (try clear hcz19_13); (try clear hcz19_14); (try clear hcz19_15); (try clear hcz19_16); (try clear hcz19_17); (try clear hcz19_18); (try clear hcz19_2); (try clear hcz19_3); (try clear hcz19_4); (try clear hcz19_5); (try clear hcz19_6); (try clear hcz19_7); (try clear hcz19_8); (try clear hcz19_9); (try clear hcz24_0); (try clear hcz24_1); (try clear hcz24_10); (try clear hcz24_11); (try clear hcz24_12); (try clear hcz24_13); (try clear hcz24_14); (try clear hcz24_15); (try clear hcz24_16); (try clear hcz24_17); (try clear hcz24_18); (try clear hcz24_2); (try clear hcz24_3); (try clear hcz24_4); (try clear hcz24_5); (try clear hcz24_6); (try clear hcz24_7); (try clear hcz24_8); (try clear hcz24_9); (try clear hcz27_0); (try clear hcz27_1); (try clear hcz27_10); (try clear hcz27_11); (try clear hcz27_12); (try clear hcz27_13); (try clear hcz27_14); (try clear hcz27_15); (try clear hcz27_16); (try clear hcz27_17); (try clear hcz27_18); (try clear hcz27_2); (try clear hcz27_3); (try clear hcz27_4); (try clear hcz27_5); (try clear hcz27_6); (try clear hcz27_7); (try clear hcz27_8); (try clear hcz27_9); (try clear hcz30_0); (try clear hcz30_1); (try clear hcz30_10); (try clear hcz30_11); (try clear hcz30_12); (try clear hcz30_13); (try clear hcz30_14); (try clear hcz30_15); (try clear hcz30_16); (try clear hcz30_17); (try clear hcz30_18); (try clear hcz30_2); (try clear hcz30_3); (try clear hcz30_4); (try clear hcz30_5); (try clear hcz30_6); (try clear hcz30_7); (try clear hcz30_8); (try clear hcz30_9); (try clear hcz33_0); (try clear hcz33_1); (try clear hcz33_10); (try clear hcz33_11); (try clear hcz33_12); (try clear hcz33_13); (try clear hcz33_14); (try clear hcz33_15); (try clear hcz33_16); (try clear hcz33_17); (try clear hcz33_18); (try clear hcz33_2); (try clear hcz33_3); (try clear hcz33_4); (try clear hcz33_5); (try clear hcz33_6); (try clear hcz33_7); (try clear hcz33_8); (try clear hcz33_9); (try clear hcz34_0); (try clear hcz34_1); (try clear hcz34_10); (try clear hcz34_11); (try clear hcz34_12); (try clear hcz34_13); (try clear hcz34_14); (try clear hcz34_15); (try clear hcz34_16); (try clear hcz34_17); (try clear hcz34_18); (try clear hcz34_2); (try clear hcz34_3); (try clear hcz34_4); (try clear hcz34_5); (try clear hcz34_6); (try clear hcz34_7); (try clear hcz34_8); (try clear hcz34_9); (try clear hcz38_0); (try clear hcz38_1); (try clear hcz38_10); (try clear hcz38_11); (try clear hcz38_12); (try clear hcz38_13); (try clear hcz38_14); (try clear hcz38_15); (try clear hcz38_16); (try clear hcz38_17); (try clear hcz38_18); (try clear hcz38_2); (try clear hcz38_3); (try clear hcz38_4); (try clear hcz38_5); (try clear hcz38_6); (try clear hcz38_7); (try clear hcz38_8); (try clear hcz38_9); (try clear hcz43_0); (try clear hcz43_1); (try clear hcz43_10); (try clear hcz43_11); (try clear hcz43_12); (try clear hcz43_13); (try clear hcz43_14); (try clear hcz43_15); (try clear hcz43_16); (try clear hcz43_17); (try clear hcz43_18); (try clear hcz43_2); (try clear hcz43_3); (try clear hcz43_4); (try clear hcz43_5); (try clear hcz43_6); (try clear hcz43_7); (try clear hcz43_8); (try clear hcz43_9); (try clear hcz45_0); (try clear hcz45_1); (try clear hcz45_10); (try clear hcz45_11); (try clear hcz45_12); (try clear hcz45_13); (try clear hcz45_14); (try clear hcz45_15); (try clear hcz45_16); (try clear hcz45_17); (try clear hcz45_18); (try clear hcz45_2); (try clear hcz45_3); (try clear hcz45_4); (try clear hcz45_5); (try clear hcz45_6); (try clear hcz45_7); (try clear hcz45_8); (try clear hcz45_9); (try clear hcz47_0); (try clear hcz47_1); (try clear hcz47_10); (try clear hcz47_11); (try clear hcz47_12); (try clear hcz47_13); (try clear hcz47_14); (try clear hcz47_15); (try clear hcz47_16); (try clear hcz47_17); (try clear hcz47_18); (try clear hcz47_2); (try clear hcz47_3); (try clear hcz47_4); (try clear hcz47_5); (try clear hcz47_6); (try clear hcz47_7); (try clear hcz47_8); (try clear hcz47_9); (try clear hcz9_0); (try clear hcz9_1); (try clear hcz9_10); (try clear hcz9_11); (try clear hcz9_12); (try clear hcz9_13); (try clear hcz9_14); (try clear hcz9_15); (try clear hcz9_16); (try clear hcz9_17); (try clear hcz9_18); (try clear hcz9_2); (try clear hcz9_3); (try clear hcz9_4); (try clear hcz9_5); (try clear hcz9_6); (try clear hcz9_7); (try clear hcz9_8); (try clear hcz9_9)
           obtain ⟨kq, x77_36, rfl, HA, HJ36, BK143, HB⟩ := hcut
           cases kq with
           | zero => exact absurd HA.out (by simp [spec_l05OK.j3])
           | succ kj36 =>
            have H := HA.out
            clear HA
            simp only [spec_l05OK.j3] at H
            by_cases c49 : x77_36 = true
            ·subst c49
             have H1 : (some false) = some r := by rw [if_pos rfl] at H; exact H
             clear H
             have H := H1
             clear H1
             exact spec_l05OK.e0
            ·replace c49 := Bool.eq_false_iff.mpr c49
             subst c49
             have H1 : ((spec_l05Rex.f a0_4 a0_5 a0_6 a0_7 a0_8 a0_9 a0_10 t151).bind fun bt155 => ((spec_l05Rex.f a0_11 a0_12 a0_13 a0_14 a0_15 a0_16 a0_17 t152).bind fun bt157 => (if bt155.2 = true then (if bt155.1 = true then (some false) else (if bt157.1 = true then (some false) else (if a0_1 = 8 then ((spec_l05Wide.f a0_0).bind fun t159 => (some t159)) else (some true)))) else (if bt157.2 = true then (if bt155.1 = true then (some false) else (if bt157.1 = true then (some false) else (if a0_1 = 8 then ((spec_l05Wide.f a0_0).bind fun t160 => (some t160)) else (some true)))) else (some true))))) = some r := by rw [if_neg (show ¬ (false = true) by decide)] at H; exact H
             clear H
             have H := H1
             clear H1
             replace H := Option.bind_eq_some_iff.mp H
             obtain ⟨⟨t155, t156⟩, A500, H⟩ := H
             replace H : ((spec_l05Rex.f a0_11 a0_12 a0_13 a0_14 a0_15 a0_16 a0_17 t152).bind fun bt157 => (if t156 = true then (if t155 = true then (some false) else (if bt157.1 = true then (some false) else (if a0_1 = 8 then ((spec_l05Wide.f a0_0).bind fun t159 => (some t159)) else (some true)))) else (if bt157.2 = true then (if t155 = true then (some false) else (if bt157.1 = true then (some false) else (if a0_1 = 8 then ((spec_l05Wide.f a0_0).bind fun t160 => (some t160)) else (some true)))) else (some true)))) = some r := H
             have A50 := Aside0.mk A500
             clear A500
             replace H := Option.bind_eq_some_iff.mp H
             obtain ⟨⟨t157, t158⟩, A510, H⟩ := H
             replace H : (if t156 = true then (if t155 = true then (some false) else (if t157 = true then (some false) else (if a0_1 = 8 then ((spec_l05Wide.f a0_0).bind fun t159 => (some t159)) else (some true)))) else (if t158 = true then (if t155 = true then (some false) else (if t157 = true then (some false) else (if a0_1 = 8 then ((spec_l05Wide.f a0_0).bind fun t160 => (some t160)) else (some true)))) else (some true))) = some r := H
             have A51 := Aside0.mk A510
             clear A510
             by_cases c52 : t156 = true
             ·subst c52
              have H1 : (if t155 = true then (some false) else (if t157 = true then (some false) else (if a0_1 = 8 then ((spec_l05Wide.f a0_0).bind fun t159 => (some t159)) else (some true)))) = some r := by rw [if_pos rfl] at H; exact H
              clear H
              have H := H1
              clear H1
              by_cases c53 : t155 = true
              ·subst c53
               have H1 : (some false) = some r := by rw [if_pos rfl] at H; exact H
               clear H
               have H := H1
               clear H1
               obtain rfl := Option.some.inj H
               have hcz54_0 := cz BK143.out 0 (.int .i64 a0_0)
               have hcz54_1 := cz BK143.out 1 (.int .i64 a0_1)
               have hcz54_2 := cz BK143.out 2 (.int .i64 a0_2)
               have hcz54_3 := cz BK143.out 3 (.int .i64 a0_3)
               have hcz54_4 := cz BK143.out 4 (.int .i64 a0_4)
               have hcz54_5 := cz BK143.out 5 (.int .i64 a0_5)
               have hcz54_6 := cz BK143.out 6 (.int .i64 a0_6)
               have hcz54_7 := cz BK143.out 7 (.int .i64 a0_7)
               have hcz54_8 := cz BK143.out 8 (.int .i64 a0_8)
               have hcz54_9 := cz BK143.out 9 (.int .i64 a0_9)
               have hcz54_10 := cz BK143.out 10 (.int .i64 a0_10)
               have hcz54_11 := cz BK143.out 11 (.int .i64 a0_11)
               have hcz54_12 := cz BK143.out 12 (.int .i64 a0_12)
               have hcz54_13 := cz BK143.out 13 (.int .i64 a0_13)
               have hcz54_14 := cz BK143.out 14 (.int .i64 a0_14)
               have hcz54_15 := cz BK143.out 15 (.int .i64 a0_15)
               have hcz54_16 := cz BK143.out 16 (.int .i64 a0_16)
               have hcz54_17 := cz BK143.out 17 (.int .i64 a0_17)
               have hcz54_18 := cz BK143.out 18 (.int .i64 a0_18)
               go_wp2_with (first | ((with_reducible refine gate_dst (N := 20) rfl ?_); (try refine gate_guard (by rfl) ?_); refine ldw 30 (.tmp 1) rfl rfl rfl by6 Try.underlying30 rfl by5 ?_) | ((with_reducible refine gate_dst (N := 62) rfl ?_); (try refine gate_guard (by rfl) ?_); refine ldw 30 (.tmp 1) rfl rfl rfl by6 Try.underlying30 rfl by5 ?_) | ((with_reducible refine gate_callee (f := 99) rfl ?_); refine goesL_ (some 82) rfl rfl Try.func99 by5 rfl #[.agg #[.int .i64 a0_4, .int .i64 a0_5, .int .i64 a0_6, .int .i64 a0_7, .int .i64 a0_8, .int .i64 a0_9, .int .i64 a0_10], .int .i64 t151] rfl by2 ?_; (with_reducible refine (spec_l05Rex.calls a0_4 a0_5 a0_6 a0_7 a0_8 a0_9 a0_10 t151 true true _ A50.out).mono ?_); rintro e w55 ⟨rfl, hb⟩; refine ⟨_, rfl, ?_⟩; have n0_ := Aside0.mk (blk_below (g := gb143) (o := .cells #[.int .i64 a0_0, .int .i64 a0_1, .int .i64 a0_2, .int .i64 a0_3, .int .i64 a0_4, .int .i64 a0_5, .int .i64 a0_6, .int .i64 a0_7, .int .i64 a0_8, .int .i64 a0_9, .int .i64 a0_10, .int .i64 a0_11, .int .i64 a0_12, .int .i64 a0_13, .int .i64 a0_14, .int .i64 a0_15, .int .i64 a0_16, .int .i64 a0_17, .int .i64 a0_18] 30 (0, 0)) by6 hb); have n1_ := Aside0.mk (below_step by12 hb); clear BK143; clear HB; have BK143 := n0_; have HB := n1_; clear n0_ n1_; (try clear hb); (try clear hb2); (try clear hk); (try clear hi); have hcz56_0 := cz BK143.out 0 (.int .i64 a0_0); have hcz56_1 := cz BK143.out 1 (.int .i64 a0_1); have hcz56_2 := cz BK143.out 2 (.int .i64 a0_2); have hcz56_3 := cz BK143.out 3 (.int .i64 a0_3); have hcz56_4 := cz BK143.out 4 (.int .i64 a0_4); have hcz56_5 := cz BK143.out 5 (.int .i64 a0_5); have hcz56_6 := cz BK143.out 6 (.int .i64 a0_6); have hcz56_7 := cz BK143.out 7 (.int .i64 a0_7); have hcz56_8 := cz BK143.out 8 (.int .i64 a0_8); have hcz56_9 := cz BK143.out 9 (.int .i64 a0_9); have hcz56_10 := cz BK143.out 10 (.int .i64 a0_10); have hcz56_11 := cz BK143.out 11 (.int .i64 a0_11); have hcz56_12 := cz BK143.out 12 (.int .i64 a0_12); have hcz56_13 := cz BK143.out 13 (.int .i64 a0_13); have hcz56_14 := cz BK143.out 14 (.int .i64 a0_14); have hcz56_15 := cz BK143.out 15 (.int .i64 a0_15); have hcz56_16 := cz BK143.out 16 (.int .i64 a0_16); have hcz56_17 := cz BK143.out 17 (.int .i64 a0_17); have hcz56_18 := cz BK143.out 18 (.int .i64 a0_18)) | ((with_reducible refine gate_callee (f := 99) rfl ?_); refine goesL_ (some 89) rfl rfl Try.func99 by5 rfl #[.agg #[.int .i64 a0_11, .int .i64 a0_12, .int .i64 a0_13, .int .i64 a0_14, .int .i64 a0_15, .int .i64 a0_16, .int .i64 a0_17], .int .i64 t152] rfl by2 ?_; (with_reducible refine (spec_l05Rex.calls a0_11 a0_12 a0_13 a0_14 a0_15 a0_16 a0_17 t152 t157 t158 _ A51.out).mono ?_); rintro e w57 ⟨rfl, hb⟩; refine ⟨_, rfl, ?_⟩; have n0_ := Aside0.mk (blk_below (g := gb143) (o := .cells #[.int .i64 a0_0, .int .i64 a0_1, .int .i64 a0_2, .int .i64 a0_3, .int .i64 a0_4, .int .i64 a0_5, .int .i64 a0_6, .int .i64 a0_7, .int .i64 a0_8, .int .i64 a0_9, .int .i64 a0_10, .int .i64 a0_11, .int .i64 a0_12, .int .i64 a0_13, .int .i64 a0_14, .int .i64 a0_15, .int .i64 a0_16, .int .i64 a0_17, .int .i64 a0_18] 30 (0, 0)) by6 hb); have n1_ := Aside0.mk (below_step by12 hb); clear BK143; clear HB; have BK143 := n0_; have HB := n1_; clear n0_ n1_; (try clear hb); (try clear hb2); (try clear hk); (try clear hi)))
               go_ret
               exact ⟨by first | rfl | (simp [errW_none, errW_some] <;> rfl) | (simp [*, errW_none, errW_some] <;> rfl), by repeat (first | (with_reducible first | exact HB.out | apply below_alloc | apply pw_below_drewN | apply below_drew1 | refine below_set ?_ GE143.out) | exact HB.out)⟩
              ·replace c53 := Bool.eq_false_iff.mpr c53
               subst c53
               have H1 : (if t157 = true then (some false) else (if a0_1 = 8 then ((spec_l05Wide.f a0_0).bind fun t159 => (some t159)) else (some true))) = some r := by rw [if_neg (show ¬ (false = true) by decide)] at H; exact H
               clear H
               have H := H1
               clear H1
               by_cases c58 : t157 = true
               ·subst c58
                have H1 : (some false) = some r := by rw [if_pos rfl] at H; exact H
                clear H
                have H := H1
                clear H1
                obtain rfl := Option.some.inj H
                have hcz59_0 := cz BK143.out 0 (.int .i64 a0_0)
                have hcz59_1 := cz BK143.out 1 (.int .i64 a0_1)
                have hcz59_2 := cz BK143.out 2 (.int .i64 a0_2)
                have hcz59_3 := cz BK143.out 3 (.int .i64 a0_3)
                have hcz59_4 := cz BK143.out 4 (.int .i64 a0_4)
                have hcz59_5 := cz BK143.out 5 (.int .i64 a0_5)
                have hcz59_6 := cz BK143.out 6 (.int .i64 a0_6)
                have hcz59_7 := cz BK143.out 7 (.int .i64 a0_7)
                have hcz59_8 := cz BK143.out 8 (.int .i64 a0_8)
                have hcz59_9 := cz BK143.out 9 (.int .i64 a0_9)
                have hcz59_10 := cz BK143.out 10 (.int .i64 a0_10)
                have hcz59_11 := cz BK143.out 11 (.int .i64 a0_11)
                have hcz59_12 := cz BK143.out 12 (.int .i64 a0_12)
                have hcz59_13 := cz BK143.out 13 (.int .i64 a0_13)
                have hcz59_14 := cz BK143.out 14 (.int .i64 a0_14)
                have hcz59_15 := cz BK143.out 15 (.int .i64 a0_15)
                have hcz59_16 := cz BK143.out 16 (.int .i64 a0_16)
                have hcz59_17 := cz BK143.out 17 (.int .i64 a0_17)
                have hcz59_18 := cz BK143.out 18 (.int .i64 a0_18)
                go_wp2_with (first | ((with_reducible refine gate_dst (N := 20) rfl ?_); (try refine gate_guard (by rfl) ?_); refine ldw 30 (.tmp 1) rfl rfl rfl by6 Try.underlying30 rfl by5 ?_) | ((with_reducible refine gate_dst (N := 62) rfl ?_); (try refine gate_guard (by rfl) ?_); refine ldw 30 (.tmp 1) rfl rfl rfl by6 Try.underlying30 rfl by5 ?_) | ((with_reducible refine gate_callee (f := 99) rfl ?_); refine goesL_ (some 82) rfl rfl Try.func99 by5 rfl #[.agg #[.int .i64 a0_4, .int .i64 a0_5, .int .i64 a0_6, .int .i64 a0_7, .int .i64 a0_8, .int .i64 a0_9, .int .i64 a0_10], .int .i64 t151] rfl by2 ?_; (with_reducible refine (spec_l05Rex.calls a0_4 a0_5 a0_6 a0_7 a0_8 a0_9 a0_10 t151 false true _ A50.out).mono ?_); rintro e w60 ⟨rfl, hb⟩; refine ⟨_, rfl, ?_⟩; have n0_ := Aside0.mk (blk_below (g := gb143) (o := .cells #[.int .i64 a0_0, .int .i64 a0_1, .int .i64 a0_2, .int .i64 a0_3, .int .i64 a0_4, .int .i64 a0_5, .int .i64 a0_6, .int .i64 a0_7, .int .i64 a0_8, .int .i64 a0_9, .int .i64 a0_10, .int .i64 a0_11, .int .i64 a0_12, .int .i64 a0_13, .int .i64 a0_14, .int .i64 a0_15, .int .i64 a0_16, .int .i64 a0_17, .int .i64 a0_18] 30 (0, 0)) by6 hb); have n1_ := Aside0.mk (below_step by12 hb); clear BK143; clear HB; have BK143 := n0_; have HB := n1_; clear n0_ n1_; (try clear hb); (try clear hb2); (try clear hk); (try clear hi); have hcz61_0 := cz BK143.out 0 (.int .i64 a0_0); have hcz61_1 := cz BK143.out 1 (.int .i64 a0_1); have hcz61_2 := cz BK143.out 2 (.int .i64 a0_2); have hcz61_3 := cz BK143.out 3 (.int .i64 a0_3); have hcz61_4 := cz BK143.out 4 (.int .i64 a0_4); have hcz61_5 := cz BK143.out 5 (.int .i64 a0_5); have hcz61_6 := cz BK143.out 6 (.int .i64 a0_6); have hcz61_7 := cz BK143.out 7 (.int .i64 a0_7); have hcz61_8 := cz BK143.out 8 (.int .i64 a0_8); have hcz61_9 := cz BK143.out 9 (.int .i64 a0_9); have hcz61_10 := cz BK143.out 10 (.int .i64 a0_10); have hcz61_11 := cz BK143.out 11 (.int .i64 a0_11); have hcz61_12 := cz BK143.out 12 (.int .i64 a0_12); have hcz61_13 := cz BK143.out 13 (.int .i64 a0_13); have hcz61_14 := cz BK143.out 14 (.int .i64 a0_14); have hcz61_15 := cz BK143.out 15 (.int .i64 a0_15); have hcz61_16 := cz BK143.out 16 (.int .i64 a0_16); have hcz61_17 := cz BK143.out 17 (.int .i64 a0_17); have hcz61_18 := cz BK143.out 18 (.int .i64 a0_18)) | ((with_reducible refine gate_callee (f := 99) rfl ?_); refine goesL_ (some 89) rfl rfl Try.func99 by5 rfl #[.agg #[.int .i64 a0_11, .int .i64 a0_12, .int .i64 a0_13, .int .i64 a0_14, .int .i64 a0_15, .int .i64 a0_16, .int .i64 a0_17], .int .i64 t152] rfl by2 ?_; (with_reducible refine (spec_l05Rex.calls a0_11 a0_12 a0_13 a0_14 a0_15 a0_16 a0_17 t152 true t158 _ A51.out).mono ?_); rintro e w62 ⟨rfl, hb⟩; refine ⟨_, rfl, ?_⟩; have n0_ := Aside0.mk (blk_below (g := gb143) (o := .cells #[.int .i64 a0_0, .int .i64 a0_1, .int .i64 a0_2, .int .i64 a0_3, .int .i64 a0_4, .int .i64 a0_5, .int .i64 a0_6, .int .i64 a0_7, .int .i64 a0_8, .int .i64 a0_9, .int .i64 a0_10, .int .i64 a0_11, .int .i64 a0_12, .int .i64 a0_13, .int .i64 a0_14, .int .i64 a0_15, .int .i64 a0_16, .int .i64 a0_17, .int .i64 a0_18] 30 (0, 0)) by6 hb); have n1_ := Aside0.mk (below_step by12 hb); clear BK143; clear HB; have BK143 := n0_; have HB := n1_; clear n0_ n1_; (try clear hb); (try clear hb2); (try clear hk); (try clear hi)))
                go_ret
                exact ⟨by first | rfl | (simp [errW_none, errW_some] <;> rfl) | (simp [*, errW_none, errW_some] <;> rfl), by repeat (first | (with_reducible first | exact HB.out | apply below_alloc | apply pw_below_drewN | apply below_drew1 | refine below_set ?_ GE143.out) | exact HB.out)⟩
               ·replace c58 := Bool.eq_false_iff.mpr c58
                subst c58
                have H1 : (if a0_1 = 8 then ((spec_l05Wide.f a0_0).bind fun t159 => (some t159)) else (some true)) = some r := by rw [if_neg (show ¬ (false = true) by decide)] at H; exact H
                clear H
                have H := H1
                clear H1
                by_cases c63 : a0_1 = 8
                ·rw [if_pos c63] at H
                 have c63b0 : (a0_1 == 8) = true := beq_iff_eq.mpr c63
                 have c63b1 : (a0_1 != 8) = false := bne_eq_false_iff_eq.mpr c63
                 clear c63
                 replace H := Option.bind_eq_some_iff.mp H
                 obtain ⟨t159, A640, H⟩ := H
                 replace H : (some t159) = some r := H
                 have A64 := Aside0.mk A640
                 clear A640
                 obtain rfl := Option.some.inj H
                 have hcz65_0 := cz BK143.out 0 (.int .i64 a0_0)
                 have hcz65_1 := cz BK143.out 1 (.int .i64 a0_1)
                 have hcz65_2 := cz BK143.out 2 (.int .i64 a0_2)
                 have hcz65_3 := cz BK143.out 3 (.int .i64 a0_3)
                 have hcz65_4 := cz BK143.out 4 (.int .i64 a0_4)
                 have hcz65_5 := cz BK143.out 5 (.int .i64 a0_5)
                 have hcz65_6 := cz BK143.out 6 (.int .i64 a0_6)
                 have hcz65_7 := cz BK143.out 7 (.int .i64 a0_7)
                 have hcz65_8 := cz BK143.out 8 (.int .i64 a0_8)
                 have hcz65_9 := cz BK143.out 9 (.int .i64 a0_9)
                 have hcz65_10 := cz BK143.out 10 (.int .i64 a0_10)
                 have hcz65_11 := cz BK143.out 11 (.int .i64 a0_11)
                 have hcz65_12 := cz BK143.out 12 (.int .i64 a0_12)
                 have hcz65_13 := cz BK143.out 13 (.int .i64 a0_13)
                 have hcz65_14 := cz BK143.out 14 (.int .i64 a0_14)
                 have hcz65_15 := cz BK143.out 15 (.int .i64 a0_15)
                 have hcz65_16 := cz BK143.out 16 (.int .i64 a0_16)
                 have hcz65_17 := cz BK143.out 17 (.int .i64 a0_17)
                 have hcz65_18 := cz BK143.out 18 (.int .i64 a0_18)
                 go_wp2_with (first | ((with_reducible refine gate_dst (N := 20) rfl ?_); (try refine gate_guard (by rfl) ?_); refine ldw 30 (.tmp 1) rfl rfl rfl by6 Try.underlying30 rfl by5 ?_) | ((with_reducible refine gate_dst (N := 62) rfl ?_); (try refine gate_guard (by rfl) ?_); refine ldw 30 (.tmp 1) rfl rfl rfl by6 Try.underlying30 rfl by5 ?_) | ((with_reducible refine gate_callee (f := 99) rfl ?_); refine goesL_ (some 82) rfl rfl Try.func99 by5 rfl #[.agg #[.int .i64 a0_4, .int .i64 a0_5, .int .i64 a0_6, .int .i64 a0_7, .int .i64 a0_8, .int .i64 a0_9, .int .i64 a0_10], .int .i64 t151] rfl by2 ?_; (with_reducible refine (spec_l05Rex.calls a0_4 a0_5 a0_6 a0_7 a0_8 a0_9 a0_10 t151 false true _ A50.out).mono ?_); rintro e w66 ⟨rfl, hb⟩; refine ⟨_, rfl, ?_⟩; have n0_ := Aside0.mk (blk_below (g := gb143) (o := .cells #[.int .i64 a0_0, .int .i64 a0_1, .int .i64 a0_2, .int .i64 a0_3, .int .i64 a0_4, .int .i64 a0_5, .int .i64 a0_6, .int .i64 a0_7, .int .i64 a0_8, .int .i64 a0_9, .int .i64 a0_10, .int .i64 a0_11, .int .i64 a0_12, .int .i64 a0_13, .int .i64 a0_14, .int .i64 a0_15, .int .i64 a0_16, .int .i64 a0_17, .int .i64 a0_18] 30 (0, 0)) by6 hb); have n1_ := Aside0.mk (below_step by12 hb); clear BK143; clear HB; have BK143 := n0_; have HB := n1_; clear n0_ n1_; (try clear hb); (try clear hb2); (try clear hk); (try clear hi); have hcz67_0 := cz BK143.out 0 (.int .i64 a0_0); have hcz67_1 := cz BK143.out 1 (.int .i64 a0_1); have hcz67_2 := cz BK143.out 2 (.int .i64 a0_2); have hcz67_3 := cz BK143.out 3 (.int .i64 a0_3); have hcz67_4 := cz BK143.out 4 (.int .i64 a0_4); have hcz67_5 := cz BK143.out 5 (.int .i64 a0_5); have hcz67_6 := cz BK143.out 6 (.int .i64 a0_6); have hcz67_7 := cz BK143.out 7 (.int .i64 a0_7); have hcz67_8 := cz BK143.out 8 (.int .i64 a0_8); have hcz67_9 := cz BK143.out 9 (.int .i64 a0_9); have hcz67_10 := cz BK143.out 10 (.int .i64 a0_10); have hcz67_11 := cz BK143.out 11 (.int .i64 a0_11); have hcz67_12 := cz BK143.out 12 (.int .i64 a0_12); have hcz67_13 := cz BK143.out 13 (.int .i64 a0_13); have hcz67_14 := cz BK143.out 14 (.int .i64 a0_14); have hcz67_15 := cz BK143.out 15 (.int .i64 a0_15); have hcz67_16 := cz BK143.out 16 (.int .i64 a0_16); have hcz67_17 := cz BK143.out 17 (.int .i64 a0_17); have hcz67_18 := cz BK143.out 18 (.int .i64 a0_18)) | ((with_reducible refine gate_callee (f := 99) rfl ?_); refine goesL_ (some 89) rfl rfl Try.func99 by5 rfl #[.agg #[.int .i64 a0_11, .int .i64 a0_12, .int .i64 a0_13, .int .i64 a0_14, .int .i64 a0_15, .int .i64 a0_16, .int .i64 a0_17], .int .i64 t152] rfl by2 ?_; (with_reducible refine (spec_l05Rex.calls a0_11 a0_12 a0_13 a0_14 a0_15 a0_16 a0_17 t152 false t158 _ A51.out).mono ?_); rintro e w68 ⟨rfl, hb⟩; refine ⟨_, rfl, ?_⟩; have n0_ := Aside0.mk (blk_below (g := gb143) (o := .cells #[.int .i64 a0_0, .int .i64 a0_1, .int .i64 a0_2, .int .i64 a0_3, .int .i64 a0_4, .int .i64 a0_5, .int .i64 a0_6, .int .i64 a0_7, .int .i64 a0_8, .int .i64 a0_9, .int .i64 a0_10, .int .i64 a0_11, .int .i64 a0_12, .int .i64 a0_13, .int .i64 a0_14, .int .i64 a0_15, .int .i64 a0_16, .int .i64 a0_17, .int .i64 a0_18] 30 (0, 0)) by6 hb); have n1_ := Aside0.mk (below_step by12 hb); clear BK143; clear HB; have BK143 := n0_; have HB := n1_; clear n0_ n1_; (try clear hb); (try clear hb2); (try clear hk); (try clear hi); have hcz69_0 := cz BK143.out 0 (.int .i64 a0_0); have hcz69_1 := cz BK143.out 1 (.int .i64 a0_1); have hcz69_2 := cz BK143.out 2 (.int .i64 a0_2); have hcz69_3 := cz BK143.out 3 (.int .i64 a0_3); have hcz69_4 := cz BK143.out 4 (.int .i64 a0_4); have hcz69_5 := cz BK143.out 5 (.int .i64 a0_5); have hcz69_6 := cz BK143.out 6 (.int .i64 a0_6); have hcz69_7 := cz BK143.out 7 (.int .i64 a0_7); have hcz69_8 := cz BK143.out 8 (.int .i64 a0_8); have hcz69_9 := cz BK143.out 9 (.int .i64 a0_9); have hcz69_10 := cz BK143.out 10 (.int .i64 a0_10); have hcz69_11 := cz BK143.out 11 (.int .i64 a0_11); have hcz69_12 := cz BK143.out 12 (.int .i64 a0_12); have hcz69_13 := cz BK143.out 13 (.int .i64 a0_13); have hcz69_14 := cz BK143.out 14 (.int .i64 a0_14); have hcz69_15 := cz BK143.out 15 (.int .i64 a0_15); have hcz69_16 := cz BK143.out 16 (.int .i64 a0_16); have hcz69_17 := cz BK143.out 17 (.int .i64 a0_17); have hcz69_18 := cz BK143.out 18 (.int .i64 a0_18)) | (go_at_call 100; (with_reducible refine (spec_l05Wide.calls a0_0 t159 _ A64.out).mono ?_); rintro e w' ⟨rfl, ⟨nd, rfl⟩⟩))
                 go_ret
                 exact ⟨by first | rfl | (simp [errW_none, errW_some] <;> rfl) | (simp [*, errW_none, errW_some] <;> rfl), by repeat (first | (with_reducible first | exact HB.out | apply below_alloc | apply pw_below_drewN | apply below_drew1 | refine below_set ?_ GE143.out) | exact HB.out)⟩
                ·rw [if_neg c63] at H
                 have c63b0 : (a0_1 == 8) = false := beq_eq_false_iff_ne.mpr c63
                 have c63b1 : (a0_1 != 8) = true := bne_iff_ne.mpr c63
                 obtain rfl := Option.some.inj H
                 have hcz70_0 := cz BK143.out 0 (.int .i64 a0_0)
                 have hcz70_1 := cz BK143.out 1 (.int .i64 a0_1)
                 have hcz70_2 := cz BK143.out 2 (.int .i64 a0_2)
                 have hcz70_3 := cz BK143.out 3 (.int .i64 a0_3)
                 have hcz70_4 := cz BK143.out 4 (.int .i64 a0_4)
                 have hcz70_5 := cz BK143.out 5 (.int .i64 a0_5)
                 have hcz70_6 := cz BK143.out 6 (.int .i64 a0_6)
                 have hcz70_7 := cz BK143.out 7 (.int .i64 a0_7)
                 have hcz70_8 := cz BK143.out 8 (.int .i64 a0_8)
                 have hcz70_9 := cz BK143.out 9 (.int .i64 a0_9)
                 have hcz70_10 := cz BK143.out 10 (.int .i64 a0_10)
                 have hcz70_11 := cz BK143.out 11 (.int .i64 a0_11)
                 have hcz70_12 := cz BK143.out 12 (.int .i64 a0_12)
                 have hcz70_13 := cz BK143.out 13 (.int .i64 a0_13)
                 have hcz70_14 := cz BK143.out 14 (.int .i64 a0_14)
                 have hcz70_15 := cz BK143.out 15 (.int .i64 a0_15)
                 have hcz70_16 := cz BK143.out 16 (.int .i64 a0_16)
                 have hcz70_17 := cz BK143.out 17 (.int .i64 a0_17)
                 have hcz70_18 := cz BK143.out 18 (.int .i64 a0_18)
                 go_wp2_with (first | ((with_reducible refine gate_dst (N := 20) rfl ?_); (try refine gate_guard (by rfl) ?_); refine ldw 30 (.tmp 1) rfl rfl rfl by6 Try.underlying30 rfl by5 ?_) | ((with_reducible refine gate_dst (N := 62) rfl ?_); (try refine gate_guard (by rfl) ?_); refine ldw 30 (.tmp 1) rfl rfl rfl by6 Try.underlying30 rfl by5 ?_) | ((with_reducible refine gate_callee (f := 99) rfl ?_); refine goesL_ (some 82) rfl rfl Try.func99 by5 rfl #[.agg #[.int .i64 a0_4, .int .i64 a0_5, .int .i64 a0_6, .int .i64 a0_7, .int .i64 a0_8, .int .i64 a0_9, .int .i64 a0_10], .int .i64 t151] rfl by2 ?_; (with_reducible refine (spec_l05Rex.calls a0_4 a0_5 a0_6 a0_7 a0_8 a0_9 a0_10 t151 false true _ A50.out).mono ?_); rintro e w71 ⟨rfl, hb⟩; refine ⟨_, rfl, ?_⟩; have n0_ := Aside0.mk (blk_below (g := gb143) (o := .cells #[.int .i64 a0_0, .int .i64 a0_1, .int .i64 a0_2, .int .i64 a0_3, .int .i64 a0_4, .int .i64 a0_5, .int .i64 a0_6, .int .i64 a0_7, .int .i64 a0_8, .int .i64 a0_9, .int .i64 a0_10, .int .i64 a0_11, .int .i64 a0_12, .int .i64 a0_13, .int .i64 a0_14, .int .i64 a0_15, .int .i64 a0_16, .int .i64 a0_17, .int .i64 a0_18] 30 (0, 0)) by6 hb); have n1_ := Aside0.mk (below_step by12 hb); clear BK143; clear HB; have BK143 := n0_; have HB := n1_; clear n0_ n1_; (try clear hb); (try clear hb2); (try clear hk); (try clear hi); have hcz72_0 := cz BK143.out 0 (.int .i64 a0_0); have hcz72_1 := cz BK143.out 1 (.int .i64 a0_1); have hcz72_2 := cz BK143.out 2 (.int .i64 a0_2); have hcz72_3 := cz BK143.out 3 (.int .i64 a0_3); have hcz72_4 := cz BK143.out 4 (.int .i64 a0_4); have hcz72_5 := cz BK143.out 5 (.int .i64 a0_5); have hcz72_6 := cz BK143.out 6 (.int .i64 a0_6); have hcz72_7 := cz BK143.out 7 (.int .i64 a0_7); have hcz72_8 := cz BK143.out 8 (.int .i64 a0_8); have hcz72_9 := cz BK143.out 9 (.int .i64 a0_9); have hcz72_10 := cz BK143.out 10 (.int .i64 a0_10); have hcz72_11 := cz BK143.out 11 (.int .i64 a0_11); have hcz72_12 := cz BK143.out 12 (.int .i64 a0_12); have hcz72_13 := cz BK143.out 13 (.int .i64 a0_13); have hcz72_14 := cz BK143.out 14 (.int .i64 a0_14); have hcz72_15 := cz BK143.out 15 (.int .i64 a0_15); have hcz72_16 := cz BK143.out 16 (.int .i64 a0_16); have hcz72_17 := cz BK143.out 17 (.int .i64 a0_17); have hcz72_18 := cz BK143.out 18 (.int .i64 a0_18)) | ((with_reducible refine gate_callee (f := 99) rfl ?_); refine goesL_ (some 89) rfl rfl Try.func99 by5 rfl #[.agg #[.int .i64 a0_11, .int .i64 a0_12, .int .i64 a0_13, .int .i64 a0_14, .int .i64 a0_15, .int .i64 a0_16, .int .i64 a0_17], .int .i64 t152] rfl by2 ?_; (with_reducible refine (spec_l05Rex.calls a0_11 a0_12 a0_13 a0_14 a0_15 a0_16 a0_17 t152 false t158 _ A51.out).mono ?_); rintro e w73 ⟨rfl, hb⟩; refine ⟨_, rfl, ?_⟩; have n0_ := Aside0.mk (blk_below (g := gb143) (o := .cells #[.int .i64 a0_0, .int .i64 a0_1, .int .i64 a0_2, .int .i64 a0_3, .int .i64 a0_4, .int .i64 a0_5, .int .i64 a0_6, .int .i64 a0_7, .int .i64 a0_8, .int .i64 a0_9, .int .i64 a0_10, .int .i64 a0_11, .int .i64 a0_12, .int .i64 a0_13, .int .i64 a0_14, .int .i64 a0_15, .int .i64 a0_16, .int .i64 a0_17, .int .i64 a0_18] 30 (0, 0)) by6 hb); have n1_ := Aside0.mk (below_step by12 hb); clear BK143; clear HB; have BK143 := n0_; have HB := n1_; clear n0_ n1_; (try clear hb); (try clear hb2); (try clear hk); (try clear hi); have hcz74_0 := cz BK143.out 0 (.int .i64 a0_0); have hcz74_1 := cz BK143.out 1 (.int .i64 a0_1); have hcz74_2 := cz BK143.out 2 (.int .i64 a0_2); have hcz74_3 := cz BK143.out 3 (.int .i64 a0_3); have hcz74_4 := cz BK143.out 4 (.int .i64 a0_4); have hcz74_5 := cz BK143.out 5 (.int .i64 a0_5); have hcz74_6 := cz BK143.out 6 (.int .i64 a0_6); have hcz74_7 := cz BK143.out 7 (.int .i64 a0_7); have hcz74_8 := cz BK143.out 8 (.int .i64 a0_8); have hcz74_9 := cz BK143.out 9 (.int .i64 a0_9); have hcz74_10 := cz BK143.out 10 (.int .i64 a0_10); have hcz74_11 := cz BK143.out 11 (.int .i64 a0_11); have hcz74_12 := cz BK143.out 12 (.int .i64 a0_12); have hcz74_13 := cz BK143.out 13 (.int .i64 a0_13); have hcz74_14 := cz BK143.out 14 (.int .i64 a0_14); have hcz74_15 := cz BK143.out 15 (.int .i64 a0_15); have hcz74_16 := cz BK143.out 16 (.int .i64 a0_16); have hcz74_17 := cz BK143.out 17 (.int .i64 a0_17); have hcz74_18 := cz BK143.out 18 (.int .i64 a0_18)))
                 go_ret
                 exact ⟨by first | rfl | (simp [errW_none, errW_some] <;> rfl) | (simp [*, errW_none, errW_some] <;> rfl), by repeat (first | (with_reducible first | exact HB.out | apply below_alloc | apply pw_below_drewN | apply below_drew1 | refine below_set ?_ GE143.out) | exact HB.out)⟩
             ·replace c52 := Bool.eq_false_iff.mpr c52
              subst c52
              have H1 : (if t158 = true then (if t155 = true then (some false) else (if t157 = true then (some false) else (if a0_1 = 8 then ((spec_l05Wide.f a0_0).bind fun t160 => (some t160)) else (some true)))) else (some true)) = some r := by rw [if_neg (show ¬ (false = true) by decide)] at H; exact H
              clear H
              have H := H1
              clear H1
              by_cases c75 : t158 = true
              ·subst c75
               have H1 : (if t155 = true then (some false) else (if t157 = true then (some false) else (if a0_1 = 8 then ((spec_l05Wide.f a0_0).bind fun t160 => (some t160)) else (some true)))) = some r := by rw [if_pos rfl] at H; exact H
               clear H
               have H := H1
               clear H1
               by_cases c76 : t155 = true
               ·subst c76
                have H1 : (some false) = some r := by rw [if_pos rfl] at H; exact H
                clear H
                have H := H1
                clear H1
                obtain rfl := Option.some.inj H
                have hcz77_0 := cz BK143.out 0 (.int .i64 a0_0)
                have hcz77_1 := cz BK143.out 1 (.int .i64 a0_1)
                have hcz77_2 := cz BK143.out 2 (.int .i64 a0_2)
                have hcz77_3 := cz BK143.out 3 (.int .i64 a0_3)
                have hcz77_4 := cz BK143.out 4 (.int .i64 a0_4)
                have hcz77_5 := cz BK143.out 5 (.int .i64 a0_5)
                have hcz77_6 := cz BK143.out 6 (.int .i64 a0_6)
                have hcz77_7 := cz BK143.out 7 (.int .i64 a0_7)
                have hcz77_8 := cz BK143.out 8 (.int .i64 a0_8)
                have hcz77_9 := cz BK143.out 9 (.int .i64 a0_9)
                have hcz77_10 := cz BK143.out 10 (.int .i64 a0_10)
                have hcz77_11 := cz BK143.out 11 (.int .i64 a0_11)
                have hcz77_12 := cz BK143.out 12 (.int .i64 a0_12)
                have hcz77_13 := cz BK143.out 13 (.int .i64 a0_13)
                have hcz77_14 := cz BK143.out 14 (.int .i64 a0_14)
                have hcz77_15 := cz BK143.out 15 (.int .i64 a0_15)
                have hcz77_16 := cz BK143.out 16 (.int .i64 a0_16)
                have hcz77_17 := cz BK143.out 17 (.int .i64 a0_17)
                have hcz77_18 := cz BK143.out 18 (.int .i64 a0_18)
                go_wp2_with (first | ((with_reducible refine gate_dst (N := 20) rfl ?_); (try refine gate_guard (by rfl) ?_); refine ldw 30 (.tmp 1) rfl rfl rfl by6 Try.underlying30 rfl by5 ?_) | ((with_reducible refine gate_dst (N := 62) rfl ?_); (try refine gate_guard (by rfl) ?_); refine ldw 30 (.tmp 1) rfl rfl rfl by6 Try.underlying30 rfl by5 ?_) | ((with_reducible refine gate_callee (f := 99) rfl ?_); refine goesL_ (some 82) rfl rfl Try.func99 by5 rfl #[.agg #[.int .i64 a0_4, .int .i64 a0_5, .int .i64 a0_6, .int .i64 a0_7, .int .i64 a0_8, .int .i64 a0_9, .int .i64 a0_10], .int .i64 t151] rfl by2 ?_; (with_reducible refine (spec_l05Rex.calls a0_4 a0_5 a0_6 a0_7 a0_8 a0_9 a0_10 t151 true false _ A50.out).mono ?_); rintro e w78 ⟨rfl, hb⟩; refine ⟨_, rfl, ?_⟩; have n0_ := Aside0.mk (blk_below (g := gb143) (o := .cells #[.int .i64 a0_0, .int .i64 a0_1, .int .i64 a0_2, .int .i64 a0_3, .int .i64 a0_4, .int .i64 a0_5, .int .i64 a0_6, .int .i64 a0_7, .int .i64 a0_8, .int .i64 a0_9, .int .i64 a0_10, .int .i64 a0_11, .int .i64 a0_12, .int .i64 a0_13, .int .i64 a0_14, .int .i64 a0_15, .int .i64 a0_16, .int .i64 a0_17, .int .i64 a0_18] 30 (0, 0)) by6 hb); have n1_ := Aside0.mk (below_step by12 hb); clear BK143; clear HB; have BK143 := n0_; have HB := n1_; clear n0_ n1_; (try clear hb); (try clear hb2); (try clear hk); (try clear hi); have hcz79_0 := cz BK143.out 0 (.int .i64 a0_0); have hcz79_1 := cz BK143.out 1 (.int .i64 a0_1); have hcz79_2 := cz BK143.out 2 (.int .i64 a0_2); have hcz79_3 := cz BK143.out 3 (.int .i64 a0_3); have hcz79_4 := cz BK143.out 4 (.int .i64 a0_4); have hcz79_5 := cz BK143.out 5 (.int .i64 a0_5); have hcz79_6 := cz BK143.out 6 (.int .i64 a0_6); have hcz79_7 := cz BK143.out 7 (.int .i64 a0_7); have hcz79_8 := cz BK143.out 8 (.int .i64 a0_8); have hcz79_9 := cz BK143.out 9 (.int .i64 a0_9); have hcz79_10 := cz BK143.out 10 (.int .i64 a0_10); have hcz79_11 := cz BK143.out 11 (.int .i64 a0_11); have hcz79_12 := cz BK143.out 12 (.int .i64 a0_12); have hcz79_13 := cz BK143.out 13 (.int .i64 a0_13); have hcz79_14 := cz BK143.out 14 (.int .i64 a0_14); have hcz79_15 := cz BK143.out 15 (.int .i64 a0_15); have hcz79_16 := cz BK143.out 16 (.int .i64 a0_16); have hcz79_17 := cz BK143.out 17 (.int .i64 a0_17); have hcz79_18 := cz BK143.out 18 (.int .i64 a0_18)) | ((with_reducible refine gate_callee (f := 99) rfl ?_); refine goesL_ (some 89) rfl rfl Try.func99 by5 rfl #[.agg #[.int .i64 a0_11, .int .i64 a0_12, .int .i64 a0_13, .int .i64 a0_14, .int .i64 a0_15, .int .i64 a0_16, .int .i64 a0_17], .int .i64 t152] rfl by2 ?_; (with_reducible refine (spec_l05Rex.calls a0_11 a0_12 a0_13 a0_14 a0_15 a0_16 a0_17 t152 t157 true _ A51.out).mono ?_); rintro e w80 ⟨rfl, hb⟩; refine ⟨_, rfl, ?_⟩; have n0_ := Aside0.mk (blk_below (g := gb143) (o := .cells #[.int .i64 a0_0, .int .i64 a0_1, .int .i64 a0_2, .int .i64 a0_3, .int .i64 a0_4, .int .i64 a0_5, .int .i64 a0_6, .int .i64 a0_7, .int .i64 a0_8, .int .i64 a0_9, .int .i64 a0_10, .int .i64 a0_11, .int .i64 a0_12, .int .i64 a0_13, .int .i64 a0_14, .int .i64 a0_15, .int .i64 a0_16, .int .i64 a0_17, .int .i64 a0_18] 30 (0, 0)) by6 hb); have n1_ := Aside0.mk (below_step by12 hb); clear BK143; clear HB; have BK143 := n0_; have HB := n1_; clear n0_ n1_; (try clear hb); (try clear hb2); (try clear hk); (try clear hi)))
                go_ret
                exact ⟨by first | rfl | (simp [errW_none, errW_some] <;> rfl) | (simp [*, errW_none, errW_some] <;> rfl), by repeat (first | (with_reducible first | exact HB.out | apply below_alloc | apply pw_below_drewN | apply below_drew1 | refine below_set ?_ GE143.out) | exact HB.out)⟩
               ·replace c76 := Bool.eq_false_iff.mpr c76
                subst c76
                have H1 : (if t157 = true then (some false) else (if a0_1 = 8 then ((spec_l05Wide.f a0_0).bind fun t160 => (some t160)) else (some true))) = some r := by rw [if_neg (show ¬ (false = true) by decide)] at H; exact H
                clear H
                have H := H1
                clear H1
                by_cases c81 : t157 = true
                ·subst c81
                 have H1 : (some false) = some r := by rw [if_pos rfl] at H; exact H
                 clear H
                 have H := H1
                 clear H1
                 obtain rfl := Option.some.inj H
                 have hcz82_0 := cz BK143.out 0 (.int .i64 a0_0)
                 have hcz82_1 := cz BK143.out 1 (.int .i64 a0_1)
                 have hcz82_2 := cz BK143.out 2 (.int .i64 a0_2)
                 have hcz82_3 := cz BK143.out 3 (.int .i64 a0_3)
                 have hcz82_4 := cz BK143.out 4 (.int .i64 a0_4)
                 have hcz82_5 := cz BK143.out 5 (.int .i64 a0_5)
                 have hcz82_6 := cz BK143.out 6 (.int .i64 a0_6)
                 have hcz82_7 := cz BK143.out 7 (.int .i64 a0_7)
                 have hcz82_8 := cz BK143.out 8 (.int .i64 a0_8)
                 have hcz82_9 := cz BK143.out 9 (.int .i64 a0_9)
                 have hcz82_10 := cz BK143.out 10 (.int .i64 a0_10)
                 have hcz82_11 := cz BK143.out 11 (.int .i64 a0_11)
                 have hcz82_12 := cz BK143.out 12 (.int .i64 a0_12)
                 have hcz82_13 := cz BK143.out 13 (.int .i64 a0_13)
                 have hcz82_14 := cz BK143.out 14 (.int .i64 a0_14)
                 have hcz82_15 := cz BK143.out 15 (.int .i64 a0_15)
                 have hcz82_16 := cz BK143.out 16 (.int .i64 a0_16)
                 have hcz82_17 := cz BK143.out 17 (.int .i64 a0_17)
                 have hcz82_18 := cz BK143.out 18 (.int .i64 a0_18)
                 go_wp2_with (first | ((with_reducible refine gate_dst (N := 20) rfl ?_); (try refine gate_guard (by rfl) ?_); refine ldw 30 (.tmp 1) rfl rfl rfl by6 Try.underlying30 rfl by5 ?_) | ((with_reducible refine gate_dst (N := 62) rfl ?_); (try refine gate_guard (by rfl) ?_); refine ldw 30 (.tmp 1) rfl rfl rfl by6 Try.underlying30 rfl by5 ?_) | ((with_reducible refine gate_callee (f := 99) rfl ?_); refine goesL_ (some 82) rfl rfl Try.func99 by5 rfl #[.agg #[.int .i64 a0_4, .int .i64 a0_5, .int .i64 a0_6, .int .i64 a0_7, .int .i64 a0_8, .int .i64 a0_9, .int .i64 a0_10], .int .i64 t151] rfl by2 ?_; (with_reducible refine (spec_l05Rex.calls a0_4 a0_5 a0_6 a0_7 a0_8 a0_9 a0_10 t151 false false _ A50.out).mono ?_); rintro e w83 ⟨rfl, hb⟩; refine ⟨_, rfl, ?_⟩; have n0_ := Aside0.mk (blk_below (g := gb143) (o := .cells #[.int .i64 a0_0, .int .i64 a0_1, .int .i64 a0_2, .int .i64 a0_3, .int .i64 a0_4, .int .i64 a0_5, .int .i64 a0_6, .int .i64 a0_7, .int .i64 a0_8, .int .i64 a0_9, .int .i64 a0_10, .int .i64 a0_11, .int .i64 a0_12, .int .i64 a0_13, .int .i64 a0_14, .int .i64 a0_15, .int .i64 a0_16, .int .i64 a0_17, .int .i64 a0_18] 30 (0, 0)) by6 hb); have n1_ := Aside0.mk (below_step by12 hb); clear BK143; clear HB; have BK143 := n0_; have HB := n1_; clear n0_ n1_; (try clear hb); (try clear hb2); (try clear hk); (try clear hi); have hcz84_0 := cz BK143.out 0 (.int .i64 a0_0); have hcz84_1 := cz BK143.out 1 (.int .i64 a0_1); have hcz84_2 := cz BK143.out 2 (.int .i64 a0_2); have hcz84_3 := cz BK143.out 3 (.int .i64 a0_3); have hcz84_4 := cz BK143.out 4 (.int .i64 a0_4); have hcz84_5 := cz BK143.out 5 (.int .i64 a0_5); have hcz84_6 := cz BK143.out 6 (.int .i64 a0_6); have hcz84_7 := cz BK143.out 7 (.int .i64 a0_7); have hcz84_8 := cz BK143.out 8 (.int .i64 a0_8); have hcz84_9 := cz BK143.out 9 (.int .i64 a0_9); have hcz84_10 := cz BK143.out 10 (.int .i64 a0_10); have hcz84_11 := cz BK143.out 11 (.int .i64 a0_11); have hcz84_12 := cz BK143.out 12 (.int .i64 a0_12); have hcz84_13 := cz BK143.out 13 (.int .i64 a0_13); have hcz84_14 := cz BK143.out 14 (.int .i64 a0_14); have hcz84_15 := cz BK143.out 15 (.int .i64 a0_15); have hcz84_16 := cz BK143.out 16 (.int .i64 a0_16); have hcz84_17 := cz BK143.out 17 (.int .i64 a0_17); have hcz84_18 := cz BK143.out 18 (.int .i64 a0_18)) | ((with_reducible refine gate_callee (f := 99) rfl ?_); refine goesL_ (some 89) rfl rfl Try.func99 by5 rfl #[.agg #[.int .i64 a0_11, .int .i64 a0_12, .int .i64 a0_13, .int .i64 a0_14, .int .i64 a0_15, .int .i64 a0_16, .int .i64 a0_17], .int .i64 t152] rfl by2 ?_; (with_reducible refine (spec_l05Rex.calls a0_11 a0_12 a0_13 a0_14 a0_15 a0_16 a0_17 t152 true true _ A51.out).mono ?_); rintro e w85 ⟨rfl, hb⟩; refine ⟨_, rfl, ?_⟩; have n0_ := Aside0.mk (blk_below (g := gb143) (o := .cells #[.int .i64 a0_0, .int .i64 a0_1, .int .i64 a0_2, .int .i64 a0_3, .int .i64 a0_4, .int .i64 a0_5, .int .i64 a0_6, .int .i64 a0_7, .int .i64 a0_8, .int .i64 a0_9, .int .i64 a0_10, .int .i64 a0_11, .int .i64 a0_12, .int .i64 a0_13, .int .i64 a0_14, .int .i64 a0_15, .int .i64 a0_16, .int .i64 a0_17, .int .i64 a0_18] 30 (0, 0)) by6 hb); have n1_ := Aside0.mk (below_step by12 hb); clear BK143; clear HB; have BK143 := n0_; have HB := n1_; clear n0_ n1_; (try clear hb); (try clear hb2); (try clear hk); (try clear hi)))
                 go_ret
                 exact ⟨by first | rfl | (simp [errW_none, errW_some] <;> rfl) | (simp [*, errW_none, errW_some] <;> rfl), by repeat (first | (with_reducible first | exact HB.out | apply below_alloc | apply pw_below_drewN | apply below_drew1 | refine below_set ?_ GE143.out) | exact HB.out)⟩
                ·replace c81 := Bool.eq_false_iff.mpr c81
                 subst c81
                 have H1 : (if a0_1 = 8 then ((spec_l05Wide.f a0_0).bind fun t160 => (some t160)) else (some true)) = some r := by rw [if_neg (show ¬ (false = true) by decide)] at H; exact H
                 clear H
                 have H := H1
                 clear H1
                 by_cases c86 : a0_1 = 8
                 ·rw [if_pos c86] at H
                  have c86b0 : (a0_1 == 8) = true := beq_iff_eq.mpr c86
                  have c86b1 : (a0_1 != 8) = false := bne_eq_false_iff_eq.mpr c86
                  clear c86
                  replace H := Option.bind_eq_some_iff.mp H
                  obtain ⟨t160, A870, H⟩ := H
                  replace H : (some t160) = some r := H
                  have A87 := Aside0.mk A870
                  clear A870
                  obtain rfl := Option.some.inj H
                  have hcz88_0 := cz BK143.out 0 (.int .i64 a0_0)
                  have hcz88_1 := cz BK143.out 1 (.int .i64 a0_1)
                  have hcz88_2 := cz BK143.out 2 (.int .i64 a0_2)
                  have hcz88_3 := cz BK143.out 3 (.int .i64 a0_3)
                  have hcz88_4 := cz BK143.out 4 (.int .i64 a0_4)
                  have hcz88_5 := cz BK143.out 5 (.int .i64 a0_5)
                  have hcz88_6 := cz BK143.out 6 (.int .i64 a0_6)
                  have hcz88_7 := cz BK143.out 7 (.int .i64 a0_7)
                  have hcz88_8 := cz BK143.out 8 (.int .i64 a0_8)
                  have hcz88_9 := cz BK143.out 9 (.int .i64 a0_9)
                  have hcz88_10 := cz BK143.out 10 (.int .i64 a0_10)
                  have hcz88_11 := cz BK143.out 11 (.int .i64 a0_11)
                  have hcz88_12 := cz BK143.out 12 (.int .i64 a0_12)
                  have hcz88_13 := cz BK143.out 13 (.int .i64 a0_13)
                  have hcz88_14 := cz BK143.out 14 (.int .i64 a0_14)
                  have hcz88_15 := cz BK143.out 15 (.int .i64 a0_15)
                  have hcz88_16 := cz BK143.out 16 (.int .i64 a0_16)
                  have hcz88_17 := cz BK143.out 17 (.int .i64 a0_17)
                  have hcz88_18 := cz BK143.out 18 (.int .i64 a0_18)
                  go_wp2_with (first | ((with_reducible refine gate_dst (N := 20) rfl ?_); (try refine gate_guard (by rfl) ?_); refine ldw 30 (.tmp 1) rfl rfl rfl by6 Try.underlying30 rfl by5 ?_) | ((with_reducible refine gate_dst (N := 62) rfl ?_); (try refine gate_guard (by rfl) ?_); refine ldw 30 (.tmp 1) rfl rfl rfl by6 Try.underlying30 rfl by5 ?_) | ((with_reducible refine gate_callee (f := 99) rfl ?_); refine goesL_ (some 82) rfl rfl Try.func99 by5 rfl #[.agg #[.int .i64 a0_4, .int .i64 a0_5, .int .i64 a0_6, .int .i64 a0_7, .int .i64 a0_8, .int .i64 a0_9, .int .i64 a0_10], .int .i64 t151] rfl by2 ?_; (with_reducible refine (spec_l05Rex.calls a0_4 a0_5 a0_6 a0_7 a0_8 a0_9 a0_10 t151 false false _ A50.out).mono ?_); rintro e w89 ⟨rfl, hb⟩; refine ⟨_, rfl, ?_⟩; have n0_ := Aside0.mk (blk_below (g := gb143) (o := .cells #[.int .i64 a0_0, .int .i64 a0_1, .int .i64 a0_2, .int .i64 a0_3, .int .i64 a0_4, .int .i64 a0_5, .int .i64 a0_6, .int .i64 a0_7, .int .i64 a0_8, .int .i64 a0_9, .int .i64 a0_10, .int .i64 a0_11, .int .i64 a0_12, .int .i64 a0_13, .int .i64 a0_14, .int .i64 a0_15, .int .i64 a0_16, .int .i64 a0_17, .int .i64 a0_18] 30 (0, 0)) by6 hb); have n1_ := Aside0.mk (below_step by12 hb); clear BK143; clear HB; have BK143 := n0_; have HB := n1_; clear n0_ n1_; (try clear hb); (try clear hb2); (try clear hk); (try clear hi); have hcz90_0 := cz BK143.out 0 (.int .i64 a0_0); have hcz90_1 := cz BK143.out 1 (.int .i64 a0_1); have hcz90_2 := cz BK143.out 2 (.int .i64 a0_2); have hcz90_3 := cz BK143.out 3 (.int .i64 a0_3); have hcz90_4 := cz BK143.out 4 (.int .i64 a0_4); have hcz90_5 := cz BK143.out 5 (.int .i64 a0_5); have hcz90_6 := cz BK143.out 6 (.int .i64 a0_6); have hcz90_7 := cz BK143.out 7 (.int .i64 a0_7); have hcz90_8 := cz BK143.out 8 (.int .i64 a0_8); have hcz90_9 := cz BK143.out 9 (.int .i64 a0_9); have hcz90_10 := cz BK143.out 10 (.int .i64 a0_10); have hcz90_11 := cz BK143.out 11 (.int .i64 a0_11); have hcz90_12 := cz BK143.out 12 (.int .i64 a0_12); have hcz90_13 := cz BK143.out 13 (.int .i64 a0_13); have hcz90_14 := cz BK143.out 14 (.int .i64 a0_14); have hcz90_15 := cz BK143.out 15 (.int .i64 a0_15); have hcz90_16 := cz BK143.out 16 (.int .i64 a0_16); have hcz90_17 := cz BK143.out 17 (.int .i64 a0_17); have hcz90_18 := cz BK143.out 18 (.int .i64 a0_18)) | ((with_reducible refine gate_callee (f := 99) rfl ?_); refine goesL_ (some 89) rfl rfl Try.func99 by5 rfl #[.agg #[.int .i64 a0_11, .int .i64 a0_12, .int .i64 a0_13, .int .i64 a0_14, .int .i64 a0_15, .int .i64 a0_16, .int .i64 a0_17], .int .i64 t152] rfl by2 ?_; (with_reducible refine (spec_l05Rex.calls a0_11 a0_12 a0_13 a0_14 a0_15 a0_16 a0_17 t152 false true _ A51.out).mono ?_); rintro e w91 ⟨rfl, hb⟩; refine ⟨_, rfl, ?_⟩; have n0_ := Aside0.mk (blk_below (g := gb143) (o := .cells #[.int .i64 a0_0, .int .i64 a0_1, .int .i64 a0_2, .int .i64 a0_3, .int .i64 a0_4, .int .i64 a0_5, .int .i64 a0_6, .int .i64 a0_7, .int .i64 a0_8, .int .i64 a0_9, .int .i64 a0_10, .int .i64 a0_11, .int .i64 a0_12, .int .i64 a0_13, .int .i64 a0_14, .int .i64 a0_15, .int .i64 a0_16, .int .i64 a0_17, .int .i64 a0_18] 30 (0, 0)) by6 hb); have n1_ := Aside0.mk (below_step by12 hb); clear BK143; clear HB; have BK143 := n0_; have HB := n1_; clear n0_ n1_; (try clear hb); (try clear hb2); (try clear hk); (try clear hi); have hcz92_0 := cz BK143.out 0 (.int .i64 a0_0); have hcz92_1 := cz BK143.out 1 (.int .i64 a0_1); have hcz92_2 := cz BK143.out 2 (.int .i64 a0_2); have hcz92_3 := cz BK143.out 3 (.int .i64 a0_3); have hcz92_4 := cz BK143.out 4 (.int .i64 a0_4); have hcz92_5 := cz BK143.out 5 (.int .i64 a0_5); have hcz92_6 := cz BK143.out 6 (.int .i64 a0_6); have hcz92_7 := cz BK143.out 7 (.int .i64 a0_7); have hcz92_8 := cz BK143.out 8 (.int .i64 a0_8); have hcz92_9 := cz BK143.out 9 (.int .i64 a0_9); have hcz92_10 := cz BK143.out 10 (.int .i64 a0_10); have hcz92_11 := cz BK143.out 11 (.int .i64 a0_11); have hcz92_12 := cz BK143.out 12 (.int .i64 a0_12); have hcz92_13 := cz BK143.out 13 (.int .i64 a0_13); have hcz92_14 := cz BK143.out 14 (.int .i64 a0_14); have hcz92_15 := cz BK143.out 15 (.int .i64 a0_15); have hcz92_16 := cz BK143.out 16 (.int .i64 a0_16); have hcz92_17 := cz BK143.out 17 (.int .i64 a0_17); have hcz92_18 := cz BK143.out 18 (.int .i64 a0_18)) | (go_at_call 100; (with_reducible refine (spec_l05Wide.calls a0_0 t160 _ A87.out).mono ?_); rintro e w' ⟨rfl, ⟨nd, rfl⟩⟩))
                  go_ret
                  exact ⟨by first | rfl | (simp [errW_none, errW_some] <;> rfl) | (simp [*, errW_none, errW_some] <;> rfl), by repeat (first | (with_reducible first | exact HB.out | apply below_alloc | apply pw_below_drewN | apply below_drew1 | refine below_set ?_ GE143.out) | exact HB.out)⟩
                 ·rw [if_neg c86] at H
                  have c86b0 : (a0_1 == 8) = false := beq_eq_false_iff_ne.mpr c86
                  have c86b1 : (a0_1 != 8) = true := bne_iff_ne.mpr c86
                  obtain rfl := Option.some.inj H
                  have hcz93_0 := cz BK143.out 0 (.int .i64 a0_0)
                  have hcz93_1 := cz BK143.out 1 (.int .i64 a0_1)
                  have hcz93_2 := cz BK143.out 2 (.int .i64 a0_2)
                  have hcz93_3 := cz BK143.out 3 (.int .i64 a0_3)
                  have hcz93_4 := cz BK143.out 4 (.int .i64 a0_4)
                  have hcz93_5 := cz BK143.out 5 (.int .i64 a0_5)
                  have hcz93_6 := cz BK143.out 6 (.int .i64 a0_6)
                  have hcz93_7 := cz BK143.out 7 (.int .i64 a0_7)
                  have hcz93_8 := cz BK143.out 8 (.int .i64 a0_8)
                  have hcz93_9 := cz BK143.out 9 (.int .i64 a0_9)
                  have hcz93_10 := cz BK143.out 10 (.int .i64 a0_10)
                  have hcz93_11 := cz BK143.out 11 (.int .i64 a0_11)
                  have hcz93_12 := cz BK143.out 12 (.int .i64 a0_12)
                  have hcz93_13 := cz BK143.out 13 (.int .i64 a0_13)
                  have hcz93_14 := cz BK143.out 14 (.int .i64 a0_14)
                  have hcz93_15 := cz BK143.out 15 (.int .i64 a0_15)
                  have hcz93_16 := cz BK143.out 16 (.int .i64 a0_16)
                  have hcz93_17 := cz BK143.out 17 (.int .i64 a0_17)
                  have hcz93_18 := cz BK143.out 18 (.int .i64 a0_18)
                  go_wp2_with (first | ((with_reducible refine gate_dst (N := 20) rfl ?_); (try refine gate_guard (by rfl) ?_); refine ldw 30 (.tmp 1) rfl rfl rfl by6 Try.underlying30 rfl by5 ?_) | ((with_reducible refine gate_dst (N := 62) rfl ?_); (try refine gate_guard (by rfl) ?_); refine ldw 30 (.tmp 1) rfl rfl rfl by6 Try.underlying30 rfl by5 ?_) | ((with_reducible refine gate_callee (f := 99) rfl ?_); refine goesL_ (some 82) rfl rfl Try.func99 by5 rfl #[.agg #[.int .i64 a0_4, .int .i64 a0_5, .int .i64 a0_6, .int .i64 a0_7, .int .i64 a0_8, .int .i64 a0_9, .int .i64 a0_10], .int .i64 t151] rfl by2 ?_; (with_reducible refine (spec_l05Rex.calls a0_4 a0_5 a0_6 a0_7 a0_8 a0_9 a0_10 t151 false false _ A50.out).mono ?_); rintro e w94 ⟨rfl, hb⟩; refine ⟨_, rfl, ?_⟩; have n0_ := Aside0.mk (blk_below (g := gb143) (o := .cells #[.int .i64 a0_0, .int .i64 a0_1, .int .i64 a0_2, .int .i64 a0_3, .int .i64 a0_4, .int .i64 a0_5, .int .i64 a0_6, .int .i64 a0_7, .int .i64 a0_8, .int .i64 a0_9, .int .i64 a0_10, .int .i64 a0_11, .int .i64 a0_12, .int .i64 a0_13, .int .i64 a0_14, .int .i64 a0_15, .int .i64 a0_16, .int .i64 a0_17, .int .i64 a0_18] 30 (0, 0)) by6 hb); have n1_ := Aside0.mk (below_step by12 hb); clear BK143; clear HB; have BK143 := n0_; have HB := n1_; clear n0_ n1_; (try clear hb); (try clear hb2); (try clear hk); (try clear hi); have hcz95_0 := cz BK143.out 0 (.int .i64 a0_0); have hcz95_1 := cz BK143.out 1 (.int .i64 a0_1); have hcz95_2 := cz BK143.out 2 (.int .i64 a0_2); have hcz95_3 := cz BK143.out 3 (.int .i64 a0_3); have hcz95_4 := cz BK143.out 4 (.int .i64 a0_4); have hcz95_5 := cz BK143.out 5 (.int .i64 a0_5); have hcz95_6 := cz BK143.out 6 (.int .i64 a0_6); have hcz95_7 := cz BK143.out 7 (.int .i64 a0_7); have hcz95_8 := cz BK143.out 8 (.int .i64 a0_8); have hcz95_9 := cz BK143.out 9 (.int .i64 a0_9); have hcz95_10 := cz BK143.out 10 (.int .i64 a0_10); have hcz95_11 := cz BK143.out 11 (.int .i64 a0_11); have hcz95_12 := cz BK143.out 12 (.int .i64 a0_12); have hcz95_13 := cz BK143.out 13 (.int .i64 a0_13); have hcz95_14 := cz BK143.out 14 (.int .i64 a0_14); have hcz95_15 := cz BK143.out 15 (.int .i64 a0_15); have hcz95_16 := cz BK143.out 16 (.int .i64 a0_16); have hcz95_17 := cz BK143.out 17 (.int .i64 a0_17); have hcz95_18 := cz BK143.out 18 (.int .i64 a0_18)) | ((with_reducible refine gate_callee (f := 99) rfl ?_); refine goesL_ (some 89) rfl rfl Try.func99 by5 rfl #[.agg #[.int .i64 a0_11, .int .i64 a0_12, .int .i64 a0_13, .int .i64 a0_14, .int .i64 a0_15, .int .i64 a0_16, .int .i64 a0_17], .int .i64 t152] rfl by2 ?_; (with_reducible refine (spec_l05Rex.calls a0_11 a0_12 a0_13 a0_14 a0_15 a0_16 a0_17 t152 false true _ A51.out).mono ?_); rintro e w96 ⟨rfl, hb⟩; refine ⟨_, rfl, ?_⟩; have n0_ := Aside0.mk (blk_below (g := gb143) (o := .cells #[.int .i64 a0_0, .int .i64 a0_1, .int .i64 a0_2, .int .i64 a0_3, .int .i64 a0_4, .int .i64 a0_5, .int .i64 a0_6, .int .i64 a0_7, .int .i64 a0_8, .int .i64 a0_9, .int .i64 a0_10, .int .i64 a0_11, .int .i64 a0_12, .int .i64 a0_13, .int .i64 a0_14, .int .i64 a0_15, .int .i64 a0_16, .int .i64 a0_17, .int .i64 a0_18] 30 (0, 0)) by6 hb); have n1_ := Aside0.mk (below_step by12 hb); clear BK143; clear HB; have BK143 := n0_; have HB := n1_; clear n0_ n1_; (try clear hb); (try clear hb2); (try clear hk); (try clear hi); have hcz97_0 := cz BK143.out 0 (.int .i64 a0_0); have hcz97_1 := cz BK143.out 1 (.int .i64 a0_1); have hcz97_2 := cz BK143.out 2 (.int .i64 a0_2); have hcz97_3 := cz BK143.out 3 (.int .i64 a0_3); have hcz97_4 := cz BK143.out 4 (.int .i64 a0_4); have hcz97_5 := cz BK143.out 5 (.int .i64 a0_5); have hcz97_6 := cz BK143.out 6 (.int .i64 a0_6); have hcz97_7 := cz BK143.out 7 (.int .i64 a0_7); have hcz97_8 := cz BK143.out 8 (.int .i64 a0_8); have hcz97_9 := cz BK143.out 9 (.int .i64 a0_9); have hcz97_10 := cz BK143.out 10 (.int .i64 a0_10); have hcz97_11 := cz BK143.out 11 (.int .i64 a0_11); have hcz97_12 := cz BK143.out 12 (.int .i64 a0_12); have hcz97_13 := cz BK143.out 13 (.int .i64 a0_13); have hcz97_14 := cz BK143.out 14 (.int .i64 a0_14); have hcz97_15 := cz BK143.out 15 (.int .i64 a0_15); have hcz97_16 := cz BK143.out 16 (.int .i64 a0_16); have hcz97_17 := cz BK143.out 17 (.int .i64 a0_17); have hcz97_18 := cz BK143.out 18 (.int .i64 a0_18)))
                  go_ret
                  exact ⟨by first | rfl | (simp [errW_none, errW_some] <;> rfl) | (simp [*, errW_none, errW_some] <;> rfl), by repeat (first | (with_reducible first | exact HB.out | apply below_alloc | apply pw_below_drewN | apply below_drew1 | refine below_set ?_ GE143.out) | exact HB.out)⟩
              ·replace c75 := Bool.eq_false_iff.mpr c75
               subst c75
               have H1 : (some true) = some r := by rw [if_neg (show ¬ (false = true) by decide)] at H; exact H
               clear H
               have H := H1
               clear H1
               obtain rfl := Option.some.inj H
               have hcz98_0 := cz BK143.out 0 (.int .i64 a0_0)
               have hcz98_1 := cz BK143.out 1 (.int .i64 a0_1)
               have hcz98_2 := cz BK143.out 2 (.int .i64 a0_2)
               have hcz98_3 := cz BK143.out 3 (.int .i64 a0_3)
               have hcz98_4 := cz BK143.out 4 (.int .i64 a0_4)
               have hcz98_5 := cz BK143.out 5 (.int .i64 a0_5)
               have hcz98_6 := cz BK143.out 6 (.int .i64 a0_6)
               have hcz98_7 := cz BK143.out 7 (.int .i64 a0_7)
               have hcz98_8 := cz BK143.out 8 (.int .i64 a0_8)
               have hcz98_9 := cz BK143.out 9 (.int .i64 a0_9)
               have hcz98_10 := cz BK143.out 10 (.int .i64 a0_10)
               have hcz98_11 := cz BK143.out 11 (.int .i64 a0_11)
               have hcz98_12 := cz BK143.out 12 (.int .i64 a0_12)
               have hcz98_13 := cz BK143.out 13 (.int .i64 a0_13)
               have hcz98_14 := cz BK143.out 14 (.int .i64 a0_14)
               have hcz98_15 := cz BK143.out 15 (.int .i64 a0_15)
               have hcz98_16 := cz BK143.out 16 (.int .i64 a0_16)
               have hcz98_17 := cz BK143.out 17 (.int .i64 a0_17)
               have hcz98_18 := cz BK143.out 18 (.int .i64 a0_18)
               go_wp2_with (first | ((with_reducible refine gate_dst (N := 20) rfl ?_); (try refine gate_guard (by rfl) ?_); refine ldw 30 (.tmp 1) rfl rfl rfl by6 Try.underlying30 rfl by5 ?_) | ((with_reducible refine gate_dst (N := 62) rfl ?_); (try refine gate_guard (by rfl) ?_); refine ldw 30 (.tmp 1) rfl rfl rfl by6 Try.underlying30 rfl by5 ?_) | ((with_reducible refine gate_callee (f := 99) rfl ?_); refine goesL_ (some 82) rfl rfl Try.func99 by5 rfl #[.agg #[.int .i64 a0_4, .int .i64 a0_5, .int .i64 a0_6, .int .i64 a0_7, .int .i64 a0_8, .int .i64 a0_9, .int .i64 a0_10], .int .i64 t151] rfl by2 ?_; (with_reducible refine (spec_l05Rex.calls a0_4 a0_5 a0_6 a0_7 a0_8 a0_9 a0_10 t151 t155 false _ A50.out).mono ?_); rintro e w99 ⟨rfl, hb⟩; refine ⟨_, rfl, ?_⟩; have n0_ := Aside0.mk (blk_below (g := gb143) (o := .cells #[.int .i64 a0_0, .int .i64 a0_1, .int .i64 a0_2, .int .i64 a0_3, .int .i64 a0_4, .int .i64 a0_5, .int .i64 a0_6, .int .i64 a0_7, .int .i64 a0_8, .int .i64 a0_9, .int .i64 a0_10, .int .i64 a0_11, .int .i64 a0_12, .int .i64 a0_13, .int .i64 a0_14, .int .i64 a0_15, .int .i64 a0_16, .int .i64 a0_17, .int .i64 a0_18] 30 (0, 0)) by6 hb); have n1_ := Aside0.mk (below_step by12 hb); clear BK143; clear HB; have BK143 := n0_; have HB := n1_; clear n0_ n1_; (try clear hb); (try clear hb2); (try clear hk); (try clear hi); have hcz100_0 := cz BK143.out 0 (.int .i64 a0_0); have hcz100_1 := cz BK143.out 1 (.int .i64 a0_1); have hcz100_2 := cz BK143.out 2 (.int .i64 a0_2); have hcz100_3 := cz BK143.out 3 (.int .i64 a0_3); have hcz100_4 := cz BK143.out 4 (.int .i64 a0_4); have hcz100_5 := cz BK143.out 5 (.int .i64 a0_5); have hcz100_6 := cz BK143.out 6 (.int .i64 a0_6); have hcz100_7 := cz BK143.out 7 (.int .i64 a0_7); have hcz100_8 := cz BK143.out 8 (.int .i64 a0_8); have hcz100_9 := cz BK143.out 9 (.int .i64 a0_9); have hcz100_10 := cz BK143.out 10 (.int .i64 a0_10); have hcz100_11 := cz BK143.out 11 (.int .i64 a0_11); have hcz100_12 := cz BK143.out 12 (.int .i64 a0_12); have hcz100_13 := cz BK143.out 13 (.int .i64 a0_13); have hcz100_14 := cz BK143.out 14 (.int .i64 a0_14); have hcz100_15 := cz BK143.out 15 (.int .i64 a0_15); have hcz100_16 := cz BK143.out 16 (.int .i64 a0_16); have hcz100_17 := cz BK143.out 17 (.int .i64 a0_17); have hcz100_18 := cz BK143.out 18 (.int .i64 a0_18)) | ((with_reducible refine gate_callee (f := 99) rfl ?_); refine goesL_ (some 89) rfl rfl Try.func99 by5 rfl #[.agg #[.int .i64 a0_11, .int .i64 a0_12, .int .i64 a0_13, .int .i64 a0_14, .int .i64 a0_15, .int .i64 a0_16, .int .i64 a0_17], .int .i64 t152] rfl by2 ?_; (with_reducible refine (spec_l05Rex.calls a0_11 a0_12 a0_13 a0_14 a0_15 a0_16 a0_17 t152 t157 false _ A51.out).mono ?_); rintro e w101 ⟨rfl, hb⟩; refine ⟨_, rfl, ?_⟩; have n0_ := Aside0.mk (blk_below (g := gb143) (o := .cells #[.int .i64 a0_0, .int .i64 a0_1, .int .i64 a0_2, .int .i64 a0_3, .int .i64 a0_4, .int .i64 a0_5, .int .i64 a0_6, .int .i64 a0_7, .int .i64 a0_8, .int .i64 a0_9, .int .i64 a0_10, .int .i64 a0_11, .int .i64 a0_12, .int .i64 a0_13, .int .i64 a0_14, .int .i64 a0_15, .int .i64 a0_16, .int .i64 a0_17, .int .i64 a0_18] 30 (0, 0)) by6 hb); have n1_ := Aside0.mk (below_step by12 hb); clear BK143; clear HB; have BK143 := n0_; have HB := n1_; clear n0_ n1_; (try clear hb); (try clear hb2); (try clear hk); (try clear hi)))
               go_ret
               exact ⟨by first | rfl | (simp [errW_none, errW_some] <;> rfl) | (simp [*, errW_none, errW_some] <;> rfl), by repeat (first | (with_reducible first | exact HB.out | apply below_alloc | apply pw_below_drewN | apply below_drew1 | refine below_set ?_ GE143.out) | exact HB.out)⟩

end Go.Proofs.Ytonogadabgilfaa.PFnExactMaskOf
