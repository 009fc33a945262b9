/- Laid by a program of this session (patch_print.py) out of the translation: plain functions and what the calls do. No condition. -/
import Derived.Test.YtonogadabgilfaaPFnExactBaseAddOfx0
import Derived.Test.YtonogadabgilfaaPFnExactBaseAddOfx7
import Derived.Test.YtonogadabgilfaaPFnExactBaseAddOfx8
import Derived.Test.YtonogadabgilfaaPFnExactBaseAddOfx9
import Derived.Test.YtonogadabgilfaaPFnExactBaseAddOfx11
import Derived.Test.YtonogadabgilfaaPFnExactBaseAddOfx13
namespace Go.Proofs.Ytonogadabgilfaa.PFnExactBaseAddOf
open Go.RowKit Go.Proofs.YtonogadabgilfaaW.PrintWords Go.Proofs.YtonogadabgilfaaW.PrintLast Go.Proofs.YtonogadabgilfaaW.PrintMore
attribute [local go_sem] max2_int min2_int max_two min_two max_three min_three max_four min_four   -- for this text's walks alone
set_option linter.unusedVariables false
set_option linter.unusedSimpArgs false

/-! ### impl_InstrOK: function 42 -/
mutual
def impl_InstrOK.j0 : Nat → Bool → Int → Int → Int → Int → Int → Int → Int → Int → Int → Int → Int → Int → Int → Int → Int → Int → Int → Int → Int → Option (Bool)
 | 0, _, _, _, _, _, _, _, _, _, _, _, _, _, _, _, _, _, _, _, _ => none
 | k + 1, x35, x255000, x255001, x255002, x255003, x255004, x255005, x255006, x255007, x255008, x255009, x255010, x255011, x255012, x255013, x255014, x255015, x255016, x255017, x255018 => if x35 = true then (some false) else ((impl_formsOf.f k x255000).bind fun bt259 => (impl_InstrOK.l0 k bt259.2 false bt259.1 (bt259.1.length : Int) 0 x255000 x255001 x255002 x255003 x255004 x255005 x255006 x255007 x255008 x255009 x255010 x255011 x255012 x255013 x255014 x255015 x255016 x255017 x255018))
def impl_InstrOK.l0 : Nat → ByteArray → Bool → List Int → Int → Int → Int → Int → Int → Int → Int → Int → Int → Int → Int → Int → Int → Int → Int → Int → Int → Int → Int → Int → Int → Option (Bool)
 | 0, _, _, _, _, _, _, _, _, _, _, _, _, _, _, _, _, _, _, _, _, _, _, _, _ => none
 | k + 1, x4, x5, x42, x43, x44, x255000, x255001, x255002, x255003, x255004, x255005, x255006, x255007, x255008, x255009, x255010, x255011, x255012, x255013, x255014, x255015, x255016, x255017, x255018 => if x44 < x43 then (if 0 ≤ x44 then (if x44 < (x42.length : Int) then (if x5 = true then (impl_InstrOK.l0 k x4 true x42 x43 (wrap64 (x44 + 1)) x255000 x255001 x255002 x255003 x255004 x255005 x255006 x255007 x255008 x255009 x255010 x255011 x255012 x255013 x255014 x255015 x255016 x255017 x255018) else (impl_InstrOK.l0 k x4 ((rd x42 x44) == x255001) x42 x43 (wrap64 (x44 + 1)) x255000 x255001 x255002 x255003 x255004 x255005 x255006 x255007 x255008 x255009 x255010 x255011 x255012 x255013 x255014 x255015 x255016 x255017 x255018)) else (none)) else (none)) else ((impl_Operand_letter.f x255004 x255005 x255006 x255007 x255008 x255009 x255010).bind fun t264 => ((impl_Operand_letter.f x255011 x255012 x255013 x255014 x255015 x255016 x255017).bind fun t265 => (if t264.size + t265.size ≤ 9223372036854775807 then (if x5 = true then ((impl_isFrom.f x255000 x255001 x255002 x255003 x255004 x255005 x255006 x255007 x255008 x255009 x255010 x255011 x255012 x255013 x255014 x255015 x255016 x255017 x255018).bind fun t266 => (if t266 = true then (if 1 + x4.size ≤ 9223372036854775807 then (if ((⟨#[32]⟩ : ByteArray) ++ x4).size + 1 ≤ 9223372036854775807 then (if 1 + (t264 ++ t265).size ≤ 9223372036854775807 then (if ((⟨#[32]⟩ : ByteArray) ++ (t264 ++ t265)).size + 1 ≤ 9223372036854775807 then ((strings_Contains.f (((⟨#[32]⟩ : ByteArray) ++ x4) ++ (⟨#[32]⟩ : ByteArray)) (((⟨#[32]⟩ : ByteArray) ++ (t264 ++ t265)) ++ (⟨#[32]⟩ : ByteArray))).bind fun t267 => (impl_InstrOK.j2 k (!t267) x255000 x255001 x255002 x255003 x255004 x255005 x255006 x255007 x255008 x255009 x255010 x255011 x255012 x255013 x255014 x255015 x255016 x255017 x255018)) else (none)) else (none)) else (none)) else (none)) else (impl_InstrOK.j2 k true x255000 x255001 x255002 x255003 x255004 x255005 x255006 x255007 x255008 x255009 x255010 x255011 x255012 x255013 x255014 x255015 x255016 x255017 x255018))) else (impl_InstrOK.j2 k true x255000 x255001 x255002 x255003 x255004 x255005 x255006 x255007 x255008 x255009 x255010 x255011 x255012 x255013 x255014 x255015 x255016 x255017 x255018)) else (none))))
def impl_InstrOK.j2 : Nat → Bool → Int → Int → Int → Int → Int → Int → Int → Int → Int → Int → Int → Int → Int → Int → Int → Int → Int → Int → Int → Option (Bool)
 | 0, _, _, _, _, _, _, _, _, _, _, _, _, _, _, _, _, _, _, _, _ => none
 | k + 1, x79, x255000, x255001, x255002, x255003, x255004, x255005, x255006, x255007, x255008, x255009, x255010, x255011, x255012, x255013, x255014, x255015, x255016, x255017, x255018 => if x79 = true then (some false) else ((impl_OperandOK.f x255004 x255005 x255006 x255007 x255008 x255009 x255010 (mx 1 x255001)).bind fun t268 => (if t268 = true then ((impl_srcSize.f x255000 x255001 x255002 x255003 x255004 x255005 x255006 x255007 x255008 x255009 x255010 x255011 x255012 x255013 x255014 x255015 x255016 x255017 x255018).bind fun t269 => ((impl_OperandOK.f x255011 x255012 x255013 x255014 x255015 x255016 x255017 t269).bind fun t270 => (impl_InstrOK.j3 k (!t270) x255000 x255001 x255002 x255003 x255004 x255005 x255006 x255007 x255008 x255009 x255010 x255011 x255012 x255013 x255014 x255015 x255016 x255017 x255018))) else (impl_InstrOK.j3 k true x255000 x255001 x255002 x255003 x255004 x255005 x255006 x255007 x255008 x255009 x255010 x255011 x255012 x255013 x255014 x255015 x255016 x255017 x255018)))
def impl_InstrOK.j3 : Nat → Bool → Int → Int → Int → Int → Int → Int → Int → Int → Int → Int → Int → Int → Int → Int → Int → Int → Int → Int → Int → Option (Bool)
 | 0, _, _, _, _, _, _, _, _, _, _, _, _, _, _, _, _, _, _, _, _ => none
 | k + 1, x94, x255000, x255001, x255002, x255003, x255004, x255005, x255006, x255007, x255008, x255009, x255010, x255011, x255012, x255013, x255014, x255015, x255016, x255017, x255018 => if x94 = true then (some false) else (if x255011 = 3 then ((impl_isNumber.f k x255000 x255001 x255002 x255003 x255004 x255005 x255006 x255007 x255008 x255009 x255010 x255011 x255012 x255013 x255014 x255015 x255016 x255017 x255018).bind fun t271 => (impl_InstrOK.j4 k (!t271) x255000 x255001 x255002 x255003 x255004 x255005 x255006 x255007 x255008 x255009 x255010 x255011 x255012 x255013 x255014 x255015 x255016 x255017 x255018)) else (impl_InstrOK.j4 k false x255000 x255001 x255002 x255003 x255004 x255005 x255006 x255007 x255008 x255009 x255010 x255011 x255012 x255013 x255014 x255015 x255016 x255017 x255018))
def impl_InstrOK.j4 : Nat → Bool → Int → Int → Int → Int → Int → Int → Int → Int → Int → Int → Int → Int → Int → Int → Int → Int → Int → Int → Int → Option (Bool)
 | 0, _, _, _, _, _, _, _, _, _, _, _, _, _, _, _, _, _, _, _, _ => none
 | k + 1, x95, x255000, x255001, x255002, x255003, x255004, x255005, x255006, x255007, x255008, x255009, x255010, x255011, x255012, x255013, x255014, x255015, x255016, x255017, x255018 => if x95 = true then (some false) else ((impl_isShift.f x255000).bind fun t272 => (if t272 = true then (if x255011 = 1 then (impl_InstrOK.j5 k (x255012 != 1) x255000 x255001 x255002 x255003 x255004 x255005 x255006 x255007 x255008 x255009 x255010 x255011 x255012 x255013 x255014 x255015 x255016 x255017 x255018) else (impl_InstrOK.j5 k false x255000 x255001 x255002 x255003 x255004 x255005 x255006 x255007 x255008 x255009 x255010 x255011 x255012 x255013 x255014 x255015 x255016 x255017 x255018)) else (impl_InstrOK.j5 k false x255000 x255001 x255002 x255003 x255004 x255005 x255006 x255007 x255008 x255009 x255010 x255011 x255012 x255013 x255014 x255015 x255016 x255017 x255018)))
def impl_InstrOK.j5 : Nat → Bool → Int → Int → Int → Int → Int → Int → Int → Int → Int → Int → Int → Int → Int → Int → Int → Int → Int → Int → Int → Option (Bool)
 | 0, _, _, _, _, _, _, _, _, _, _, _, _, _, _, _, _, _, _, _, _ => none
 | k + 1, x105, x255000, x255001, x255002, x255003, x255004, x255005, x255006, x255007, x255008, x255009, x255010, x255011, x255012, x255013, x255014, x255015, x255016, x255017, x255018 => if x105 = true then (some false) else ((impl_hasHigh.f x255004 x255005 x255006 x255007 x255008 x255009 x255010).bind fun t273 => (if t273 = true then ((impl_needsRex.f k x255000 x255001 x255002 x255003 x255004 x255005 x255006 x255007 x255008 x255009 x255010 x255011 x255012 x255013 x255014 x255015 x255016 x255017 x255018).bind fun t274 => (some (!t274))) else ((impl_hasHigh.f x255011 x255012 x255013 x255014 x255015 x255016 x255017).bind fun t275 => (if t275 = true then ((impl_needsRex.f k x255000 x255001 x255002 x255003 x255004 x255005 x255006 x255007 x255008 x255009 x255010 x255011 x255012 x255013 x255014 x255015 x255016 x255017 x255018).bind fun t276 => (some (!t276))) else (some true)))))
end
def impl_InstrOK.f (k : Nat) (a0_0 : Int) (a0_1 : Int) (a0_2 : Int) (a0_3 : Int) (a0_4 : Int) (a0_5 : Int) (a0_6 : Int) (a0_7 : Int) (a0_8 : Int) (a0_9 : Int) (a0_10 : Int) (a0_11 : Int) (a0_12 : Int) (a0_13 : Int) (a0_14 : Int) (a0_15 : Int) (a0_16 : Int) (a0_17 : Int) (a0_18 : Int) : Option (Bool) := (impl_isOp.f a0_0).bind fun t255 => (if t255 = true then ((impl_within.f a0_18 0 15).bind fun t256 => (if t256 = true then ((impl_within.f a0_2 0 15).bind fun t257 => (if t257 = true then (if a0_2 = 0 then (impl_InstrOK.j0 k false a0_0 a0_1 a0_2 a0_3 a0_4 a0_5 a0_6 a0_7 a0_8 a0_9 a0_10 a0_11 a0_12 a0_13 a0_14 a0_15 a0_16 a0_17 a0_18) else ((impl_hasCond.f a0_0).bind fun t258 => (impl_InstrOK.j0 k (!t258) a0_0 a0_1 a0_2 a0_3 a0_4 a0_5 a0_6 a0_7 a0_8 a0_9 a0_10 a0_11 a0_12 a0_13 a0_14 a0_15 a0_16 a0_17 a0_18))) else (impl_InstrOK.j0 k true a0_0 a0_1 a0_2 a0_3 a0_4 a0_5 a0_6 a0_7 a0_8 a0_9 a0_10 a0_11 a0_12 a0_13 a0_14 a0_15 a0_16 a0_17 a0_18))) else (impl_InstrOK.j0 k true a0_0 a0_1 a0_2 a0_3 a0_4 a0_5 a0_6 a0_7 a0_8 a0_9 a0_10 a0_11 a0_12 a0_13 a0_14 a0_15 a0_16 a0_17 a0_18))) else (impl_InstrOK.j0 k true a0_0 a0_1 a0_2 a0_3 a0_4 a0_5 a0_6 a0_7 a0_8 a0_9 a0_10 a0_11 a0_12 a0_13 a0_14 a0_15 a0_16 a0_17 a0_18))
theorem impl_InstrOK.mono_l : ∀ k, (∀ y0 y1 y2 y3 y4 y5 y6 y7 y8 y9 y10 y11 y12 y13 y14 y15 y16 y17 y18 y19, LeO (impl_InstrOK.j0 k y0 y1 y2 y3 y4 y5 y6 y7 y8 y9 y10 y11 y12 y13 y14 y15 y16 y17 y18 y19) (impl_InstrOK.j0 (k + 1) y0 y1 y2 y3 y4 y5 y6 y7 y8 y9 y10 y11 y12 y13 y14 y15 y16 y17 y18 y19)) ∧ (∀ y0 y1 y2 y3 y4 y5 y6 y7 y8 y9 y10 y11 y12 y13 y14 y15 y16 y17 y18 y19 y20 y21 y22 y23, LeO (impl_InstrOK.l0 k y0 y1 y2 y3 y4 y5 y6 y7 y8 y9 y10 y11 y12 y13 y14 y15 y16 y17 y18 y19 y20 y21 y22 y23) (impl_InstrOK.l0 (k + 1) y0 y1 y2 y3 y4 y5 y6 y7 y8 y9 y10 y11 y12 y13 y14 y15 y16 y17 y18 y19 y20 y21 y22 y23)) ∧ (∀ y0 y1 y2 y3 y4 y5 y6 y7 y8 y9 y10 y11 y12 y13 y14 y15 y16 y17 y18 y19, LeO (impl_InstrOK.j2 k y0 y1 y2 y3 y4 y5 y6 y7 y8 y9 y10 y11 y12 y13 y14 y15 y16 y17 y18 y19) (impl_InstrOK.j2 (k + 1) y0 y1 y2 y3 y4 y5 y6 y7 y8 y9 y10 y11 y12 y13 y14 y15 y16 y17 y18 y19)) ∧ (∀ y0 y1 y2 y3 y4 y5 y6 y7 y8 y9 y10 y11 y12 y13 y14 y15 y16 y17 y18 y19, LeO (impl_InstrOK.j3 k y0 y1 y2 y3 y4 y5 y6 y7 y8 y9 y10 y11 y12 y13 y14 y15 y16 y17 y18 y19) (impl_InstrOK.j3 (k + 1) y0 y1 y2 y3 y4 y5 y6 y7 y8 y9 y10 y11 y12 y13 y14 y15 y16 y17 y18 y19)) ∧ (∀ y0 y1 y2 y3 y4 y5 y6 y7 y8 y9 y10 y11 y12 y13 y14 y15 y16 y17 y18 y19, LeO (impl_InstrOK.j4 k y0 y1 y2 y3 y4 y5 y6 y7 y8 y9 y10 y11 y12 y13 y14 y15 y16 y17 y18 y19) (impl_InstrOK.j4 (k + 1) y0 y1 y2 y3 y4 y5 y6 y7 y8 y9 y10 y11 y12 y13 y14 y15 y16 y17 y18 y19)) ∧ (∀ y0 y1 y2 y3 y4 y5 y6 y7 y8 y9 y10 y11 y12 y13 y14 y15 y16 y17 y18 y19, LeO (impl_InstrOK.j5 k y0 y1 y2 y3 y4 y5 y6 y7 y8 y9 y10 y11 y12 y13 y14 y15 y16 y17 y18 y19) (impl_InstrOK.j5 (k + 1) y0 y1 y2 y3 y4 y5 y6 y7 y8 y9 y10 y11 y12 y13 y14 y15 y16 y17 y18 y19))
 | 0 => ⟨fun _ _ _ _ _ _ _ _ _ _ _ _ _ _ _ _ _ _ _ _ r h => by simp [impl_InstrOK.j0] at h, fun _ _ _ _ _ _ _ _ _ _ _ _ _ _ _ _ _ _ _ _ _ _ _ _ r h => by simp [impl_InstrOK.l0] at h, fun _ _ _ _ _ _ _ _ _ _ _ _ _ _ _ _ _ _ _ _ r h => by simp [impl_InstrOK.j2] at h, fun _ _ _ _ _ _ _ _ _ _ _ _ _ _ _ _ _ _ _ _ r h => by simp [impl_InstrOK.j3] at h, fun _ _ _ _ _ _ _ _ _ _ _ _ _ _ _ _ _ _ _ _ r h => by simp [impl_InstrOK.j4] at h, fun _ _ _ _ _ _ _ _ _ _ _ _ _ _ _ _ _ _ _ _ r h => by simp [impl_InstrOK.j5] at h⟩
 | k + 1 => by
  obtain ⟨ih0, ih1, ih2, ih3, ih4, ih5⟩ := impl_InstrOK.mono_l k
  refine ⟨?_, ?_, ?_, ?_, ?_, ?_⟩
  ·intro y0 y1 y2 y3 y4 y5 y6 y7 y8 y9 y10 y11 y12 y13 y14 y15 y16 y17 y18 y19
   unfold impl_InstrOK.j0
   repeat' first
   | (with_reducible exact ih0 _ _ _ _ _ _ _ _ _ _ _ _ _ _ _ _ _ _ _ _)
   | (with_reducible exact ih1 _ _ _ _ _ _ _ _ _ _ _ _ _ _ _ _ _ _ _ _ _ _ _ _)
   | (with_reducible exact ih2 _ _ _ _ _ _ _ _ _ _ _ _ _ _ _ _ _ _ _ _)
   | (with_reducible exact ih3 _ _ _ _ _ _ _ _ _ _ _ _ _ _ _ _ _ _ _ _)
   | (with_reducible exact ih4 _ _ _ _ _ _ _ _ _ _ _ _ _ _ _ _ _ _ _ _)
   | (with_reducible exact ih5 _ _ _ _ _ _ _ _ _ _ _ _ _ _ _ _ _ _ _ _)
   | (with_reducible exact impl_formsOf.mono _ _)
   | (with_reducible exact impl_isNumber.mono _ _ _ _ _ _ _ _ _ _ _ _ _ _ _ _ _ _ _ _)
   | (with_reducible exact impl_needsRex.mono _ _ _ _ _ _ _ _ _ _ _ _ _ _ _ _ _ _ _ _)
   | (with_reducible exact LeO.refl _)
   | (with_reducible exact LeO.none _)
   | (with_reducible refine LeO.ite ?_ ?_)
   | (with_reducible refine LeO.bind ?_ (fun _ => ?_))
   | refine LeO.ite ?_ ?_
   | refine LeO.bind ?_ (fun _ => ?_)
  ·intro y0 y1 y2 y3 y4 y5 y6 y7 y8 y9 y10 y11 y12 y13 y14 y15 y16 y17 y18 y19 y20 y21 y22 y23
   unfold impl_InstrOK.l0
   repeat' first
   | (with_reducible exact ih0 _ _ _ _ _ _ _ _ _ _ _ _ _ _ _ _ _ _ _ _)
   | (with_reducible exact ih1 _ _ _ _ _ _ _ _ _ _ _ _ _ _ _ _ _ _ _ _ _ _ _ _)
   | (with_reducible exact ih2 _ _ _ _ _ _ _ _ _ _ _ _ _ _ _ _ _ _ _ _)
   | (with_reducible exact ih3 _ _ _ _ _ _ _ _ _ _ _ _ _ _ _ _ _ _ _ _)
   | (with_reducible exact ih4 _ _ _ _ _ _ _ _ _ _ _ _ _ _ _ _ _ _ _ _)
   | (with_reducible exact ih5 _ _ _ _ _ _ _ _ _ _ _ _ _ _ _ _ _ _ _ _)
   | (with_reducible exact impl_formsOf.mono _ _)
   | (with_reducible exact impl_isNumber.mono _ _ _ _ _ _ _ _ _ _ _ _ _ _ _ _ _ _ _ _)
   | (with_reducible exact impl_needsRex.mono _ _ _ _ _ _ _ _ _ _ _ _ _ _ _ _ _ _ _ _)
   | (with_reducible exact LeO.refl _)
   | (with_reducible exact LeO.none _)
   | (with_reducible refine LeO.ite ?_ ?_)
   | (with_reducible refine LeO.bind ?_ (fun _ => ?_))
   | refine LeO.ite ?_ ?_
   | refine LeO.bind ?_ (fun _ => ?_)
  ·intro y0 y1 y2 y3 y4 y5 y6 y7 y8 y9 y10 y11 y12 y13 y14 y15 y16 y17 y18 y19
   unfold impl_InstrOK.j2
   repeat' first
   | (with_reducible exact ih0 _ _ _ _ _ _ _ _ _ _ _ _ _ _ _ _ _ _ _ _)
   | (with_reducible exact ih1 _ _ _ _ _ _ _ _ _ _ _ _ _ _ _ _ _ _ _ _ _ _ _ _)
   | (with_reducible exact ih2 _ _ _ _ _ _ _ _ _ _ _ _ _ _ _ _ _ _ _ _)
   | (with_reducible exact ih3 _ _ _ _ _ _ _ _ _ _ _ _ _ _ _ _ _ _ _ _)
   | (with_reducible exact ih4 _ _ _ _ _ _ _ _ _ _ _ _ _ _ _ _ _ _ _ _)
   | (with_reducible exact ih5 _ _ _ _ _ _ _ _ _ _ _ _ _ _ _ _ _ _ _ _)
   | (with_reducible exact impl_formsOf.mono _ _)
   | (with_reducible exact impl_isNumber.mono _ _ _ _ _ _ _ _ _ _ _ _ _ _ _ _ _ _ _ _)
   | (with_reducible exact impl_needsRex.mono _ _ _ _ _ _ _ _ _ _ _ _ _ _ _ _ _ _ _ _)
   | (with_reducible exact LeO.refl _)
   | (with_reducible exact LeO.none _)
   | (with_reducible refine LeO.ite ?_ ?_)
   | (with_reducible refine LeO.bind ?_ (fun _ => ?_))
   | refine LeO.ite ?_ ?_
   | refine LeO.bind ?_ (fun _ => ?_)
  ·intro y0 y1 y2 y3 y4 y5 y6 y7 y8 y9 y10 y11 y12 y13 y14 y15 y16 y17 y18 y19
   unfold impl_InstrOK.j3
   repeat' first
   | (with_reducible exact ih0 _ _ _ _ _ _ _ _ _ _ _ _ _ _ _ _ _ _ _ _)
   | (with_reducible exact ih1 _ _ _ _ _ _ _ _ _ _ _ _ _ _ _ _ _ _ _ _ _ _ _ _)
   | (with_reducible exact ih2 _ _ _ _ _ _ _ _ _ _ _ _ _ _ _ _ _ _ _ _)
   | (with_reducible exact ih3 _ _ _ _ _ _ _ _ _ _ _ _ _ _ _ _ _ _ _ _)
   | (with_reducible exact ih4 _ _ _ _ _ _ _ _ _ _ _ _ _ _ _ _ _ _ _ _)
   | (with_reducible exact ih5 _ _ _ _ _ _ _ _ _ _ _ _ _ _ _ _ _ _ _ _)
   | (with_reducible exact impl_formsOf.mono _ _)
   | (with_reducible exact impl_isNumber.mono _ _ _ _ _ _ _ _ _ _ _ _ _ _ _ _ _ _ _ _)
   | (with_reducible exact impl_needsRex.mono _ _ _ _ _ _ _ _ _ _ _ _ _ _ _ _ _ _ _ _)
   | (with_reducible exact LeO.refl _)
   | (with_reducible exact LeO.none _)
   | (with_reducible refine LeO.ite ?_ ?_)
   | (with_reducible refine LeO.bind ?_ (fun _ => ?_))
   | refine LeO.ite ?_ ?_
   | refine LeO.bind ?_ (fun _ => ?_)
  ·intro y0 y1 y2 y3 y4 y5 y6 y7 y8 y9 y10 y11 y12 y13 y14 y15 y16 y17 y18 y19
   unfold impl_InstrOK.j4
   repeat' first
   | (with_reducible exact ih0 _ _ _ _ _ _ _ _ _ _ _ _ _ _ _ _ _ _ _ _)
   | (with_reducible exact ih1 _ _ _ _ _ _ _ _ _ _ _ _ _ _ _ _ _ _ _ _ _ _ _ _)
   | (with_reducible exact ih2 _ _ _ _ _ _ _ _ _ _ _ _ _ _ _ _ _ _ _ _)
   | (with_reducible exact ih3 _ _ _ _ _ _ _ _ _ _ _ _ _ _ _ _ _ _ _ _)
   | (with_reducible exact ih4 _ _ _ _ _ _ _ _ _ _ _ _ _ _ _ _ _ _ _ _)
   | (with_reducible exact ih5 _ _ _ _ _ _ _ _ _ _ _ _ _ _ _ _ _ _ _ _)
   | (with_reducible exact impl_formsOf.mono _ _)
   | (with_reducible exact impl_isNumber.mono _ _ _ _ _ _ _ _ _ _ _ _ _ _ _ _ _ _ _ _)
   | (with_reducible exact impl_needsRex.mono _ _ _ _ _ _ _ _ _ _ _ _ _ _ _ _ _ _ _ _)
   | (with_reducible exact LeO.refl _)
   | (with_reducible exact LeO.none _)
   | (with_reducible refine LeO.ite ?_ ?_)
   | (with_reducible refine LeO.bind ?_ (fun _ => ?_))
   | refine LeO.ite ?_ ?_
   | refine LeO.bind ?_ (fun _ => ?_)
  ·intro y0 y1 y2 y3 y4 y5 y6 y7 y8 y9 y10 y11 y12 y13 y14 y15 y16 y17 y18 y19
   unfold impl_InstrOK.j5
   repeat' first
   | (with_reducible exact ih0 _ _ _ _ _ _ _ _ _ _ _ _ _ _ _ _ _ _ _ _)
   | (with_reducible exact ih1 _ _ _ _ _ _ _ _ _ _ _ _ _ _ _ _ _ _ _ _ _ _ _ _)
   | (with_reducible exact ih2 _ _ _ _ _ _ _ _ _ _ _ _ _ _ _ _ _ _ _ _)
   | (with_reducible exact ih3 _ _ _ _ _ _ _ _ _ _ _ _ _ _ _ _ _ _ _ _)
   | (with_reducible exact ih4 _ _ _ _ _ _ _ _ _ _ _ _ _ _ _ _ _ _ _ _)
   | (with_reducible exact ih5 _ _ _ _ _ _ _ _ _ _ _ _ _ _ _ _ _ _ _ _)
   | (with_reducible exact impl_formsOf.mono _ _)
   | (with_reducible exact impl_isNumber.mono _ _ _ _ _ _ _ _ _ _ _ _ _ _ _ _ _ _ _ _)
   | (with_reducible exact impl_needsRex.mono _ _ _ _ _ _ _ _ _ _ _ _ _ _ _ _ _ _ _ _)
   | (with_reducible exact LeO.refl _)
   | (with_reducible exact LeO.none _)
   | (with_reducible refine LeO.ite ?_ ?_)
   | (with_reducible refine LeO.bind ?_ (fun _ => ?_))
   | refine LeO.ite ?_ ?_
   | refine LeO.bind ?_ (fun _ => ?_)
theorem impl_InstrOK.mono : ∀ a0 a1 a2 a3 a4 a5 a6 a7 a8 a9 a10 a11 a12 a13 a14 a15 a16 a17 a18 k, LeO (impl_InstrOK.f k a0 a1 a2 a3 a4 a5 a6 a7 a8 a9 a10 a11 a12 a13 a14 a15 a16 a17 a18) (impl_InstrOK.f (k + 1) a0 a1 a2 a3 a4 a5 a6 a7 a8 a9 a10 a11 a12 a13 a14 a15 a16 a17 a18) := by
 intro a0 a1 a2 a3 a4 a5 a6 a7 a8 a9 a10 a11 a12 a13 a14 a15 a16 a17 a18 k
 obtain ⟨ih0, ih1, ih2, ih3, ih4, ih5⟩ := impl_InstrOK.mono_l k
 unfold impl_InstrOK.f
 repeat' first
   | (with_reducible exact ih0 _ _ _ _ _ _ _ _ _ _ _ _ _ _ _ _ _ _ _ _)
   | (with_reducible exact ih1 _ _ _ _ _ _ _ _ _ _ _ _ _ _ _ _ _ _ _ _ _ _ _ _)
   | (with_reducible exact ih2 _ _ _ _ _ _ _ _ _ _ _ _ _ _ _ _ _ _ _ _)
   | (with_reducible exact ih3 _ _ _ _ _ _ _ _ _ _ _ _ _ _ _ _ _ _ _ _)
   | (with_reducible exact ih4 _ _ _ _ _ _ _ _ _ _ _ _ _ _ _ _ _ _ _ _)
   | (with_reducible exact ih5 _ _ _ _ _ _ _ _ _ _ _ _ _ _ _ _ _ _ _ _)
   | (with_reducible exact impl_formsOf.mono _ _)
   | (with_reducible exact impl_isNumber.mono _ _ _ _ _ _ _ _ _ _ _ _ _ _ _ _ _ _ _ _)
   | (with_reducible exact impl_needsRex.mono _ _ _ _ _ _ _ _ _ _ _ _ _ _ _ _ _ _ _ _)
   | (with_reducible exact LeO.refl _)
   | (with_reducible exact LeO.none _)
   | (with_reducible refine LeO.ite ?_ ?_)
   | (with_reducible refine LeO.bind ?_ (fun _ => ?_))
   | refine LeO.ite ?_ ?_
   | refine LeO.bind ?_ (fun _ => ?_)
def impl_InstrOK.T10 : Bool × List (List Nat × List Nat) := (true, [([], []), ([0], [0]), ([1], [1]), ([], []), ([3], [3]), ([4, 2], [4]), ([2, 5], [2, 5]), ([6, 5, 0, 1, 2, 3, 4, 5, 6], [6])])
def impl_InstrOK.B10 : List Nat := [0, 1, 3, 0, 8, 31, 63, 127]
theorem impl_InstrOK.tab10 : rtab .any (opsOf Try.f42 10) = impl_InstrOK.T10 := by kernel_rfl
theorem impl_InstrOK.bits10 : waitsOk impl_InstrOK.T10.2 impl_InstrOK.B10 = true := by kernel_rfl
def impl_InstrOK.T13 : Bool × List (List Nat × List Nat) := (true, [([], []), ([0], [0]), ([], []), ([2], [2]), ([3], [3]), ([1, 4], [1, 4]), ([5], [5]), ([6, 5], [6]), ([7], [7]), ([8, 7], [7, 8]), ([7], [7]), ([10, 7, 7], [7, 10]), ([9, 11, 11, 7], [7, 9, 11]), ([12, 7], [7, 12]), ([7, 13], [7, 13])])
def impl_InstrOK.B13 : List Nat := [0, 1, 0, 4, 12, 31, 63, 127, 255, 511, 255, 1279, 4095, 8191, 16383]
theorem impl_InstrOK.tab13 : rtab .any (opsOf Try.f42 13) = impl_InstrOK.T13 := by kernel_rfl
theorem impl_InstrOK.bits13 : waitsOk impl_InstrOK.T13.2 impl_InstrOK.B13 = true := by kernel_rfl
theorem impl_InstrOK.e0 {p : Prop} (h : p := by
 obtain rfl := Option.some.inj H
 go_wp2_with (first | ((with_reducible refine gate_dst (N := 66) rfl ?_); (try refine gate_guard (by rfl) ?_); refine ldw 30 (.tmp 1) rfl rfl rfl by2 Try.underlying30 rfl by4 ?_) | ((with_reducible refine gate_dst (N := 90) rfl ?_); (try refine gate_guard (by rfl) ?_); refine ldw 30 (.tmp 1) rfl rfl rfl by2 Try.underlying30 rfl by4 ?_) | ((with_reducible refine gate_dst (N := 101) rfl ?_); (try refine gate_guard (by rfl) ?_); refine ldw 30 (.tmp 1) rfl rfl rfl by2 Try.underlying30 rfl by4 ?_) | ((with_reducible refine gate_dst (N := 131) rfl ?_); (try refine gate_guard (by rfl) ?_); refine ldw 30 (.tmp 1) rfl rfl rfl by2 Try.underlying30 rfl by4 ?_))
 go_ret
 exact ⟨by first | rfl | (simp [errW_none, errW_some] <;> rfl) | (simp [*, errW_none, errW_some] <;> rfl), by repeat (first | (with_reducible first | exact HB.out | apply below_alloc | apply pw_below_drewN | apply below_drew1 | refine below_set ?_ GE254.out) | exact HB.out)⟩) : p := h
set_option maxHeartbeats 8000000 in
set_option maxRecDepth 100000 in
theorem impl_InstrOK.calls (k : Nat) (a0_0 : Int) (a0_1 : Int) (a0_2 : Int) (a0_3 : Int) (a0_4 : Int) (a0_5 : Int) (a0_6 : Int) (a0_7 : Int) (a0_8 : Int) (a0_9 : Int) (a0_10 : Int) (a0_11 : Int) (a0_12 : Int) (a0_13 : Int) (a0_14 : Int) (a0_15 : Int) (a0_16 : Int) (a0_17 : Int) (a0_18 : Int) (r : Bool) (w : World) (HGL0 : PGlob w) (h : impl_InstrOK.f k a0_0 a0_1 a0_2 a0_3 a0_4 a0_5 a0_6 a0_7 a0_8 a0_9 a0_10 a0_11 a0_12 a0_13 a0_14 a0_15 a0_16 a0_17 a0_18 = some r) :
  Calls Try.prog 42 #[.agg #[.int .i64 a0_0, .int .i64 a0_1, .int .i64 a0_2, .int .i64 a0_3, .int .i64 a0_4, .int .i64 a0_5, .int .i64 a0_6, .int .i64 a0_7, .int .i64 a0_8, .int .i64 a0_9, .int .i64 a0_10, .int .i64 a0_11, .int .i64 a0_12, .int .i64 a0_13, .int .i64 a0_14, .int .i64 a0_15, .int .i64 a0_16, .int .i64 a0_17, .int .i64 a0_18]] w fun e w' => e = .returned (.bool r) ∧ Below w.heap.size w w' := by
 have HGL := Aside0.mk HGL0
 clear HGL0
 have hu30 := Try.underlying30
 have hu28 := Try.underlying28
 have HB := Aside0.mk (Below.refl w.heap.size w)
 have H : ((impl_isOp.f a0_0).bind fun t255 => (if t255 = true then ((impl_within.f a0_18 0 15).bind fun t256 => (if t256 = true then ((impl_within.f a0_2 0 15).bind fun t257 => (if t257 = true then (if a0_2 = 0 then (impl_InstrOK.j0 k false a0_0 a0_1 a0_2 a0_3 a0_4 a0_5 a0_6 a0_7 a0_8 a0_9 a0_10 a0_11 a0_12 a0_13 a0_14 a0_15 a0_16 a0_17 a0_18) else ((impl_hasCond.f a0_0).bind fun t258 => (impl_InstrOK.j0 k (!t258) a0_0 a0_1 a0_2 a0_3 a0_4 a0_5 a0_6 a0_7 a0_8 a0_9 a0_10 a0_11 a0_12 a0_13 a0_14 a0_15 a0_16 a0_17 a0_18))) else (impl_InstrOK.j0 k true a0_0 a0_1 a0_2 a0_3 a0_4 a0_5 a0_6 a0_7 a0_8 a0_9 a0_10 a0_11 a0_12 a0_13 a0_14 a0_15 a0_16 a0_17 a0_18))) else (impl_InstrOK.j0 k true a0_0 a0_1 a0_2 a0_3 a0_4 a0_5 a0_6 a0_7 a0_8 a0_9 a0_10 a0_11 a0_12 a0_13 a0_14 a0_15 a0_16 a0_17 a0_18))) else (impl_InstrOK.j0 k true a0_0 a0_1 a0_2 a0_3 a0_4 a0_5 a0_6 a0_7 a0_8 a0_9 a0_10 a0_11 a0_12 a0_13 a0_14 a0_15 a0_16 a0_17 a0_18))) = some r := h
 clear h
 have HC2 := Aside0.mk H
 clear H
 go_enter Try.func42, Try.ntmps42
 go_upto_region 1 with (first | ((with_reducible refine gate_dst (N := 66) rfl ?_); (try refine gate_guard (by rfl) ?_); refine ldw 30 (.tmp 1) rfl rfl rfl by2 Try.underlying30 rfl by4 ?_) | ((with_reducible refine gate_dst (N := 90) rfl ?_); (try refine gate_guard (by rfl) ?_); refine ldw 30 (.tmp 1) rfl rfl rfl by2 Try.underlying30 rfl by4 ?_) | ((with_reducible refine gate_dst (N := 101) rfl ?_); (try refine gate_guard (by rfl) ?_); refine ldw 30 (.tmp 1) rfl rfl rfl by2 Try.underlying30 rfl by4 ?_) | ((with_reducible refine gate_dst (N := 131) rfl ?_); (try refine gate_guard (by rfl) ?_); refine ldw 30 (.tmp 1) rfl rfl rfl by2 Try.underlying30 rfl by4 ?_) | ((with_reducible refine gate_dst (N := 1) rfl ?_); refine bx30 (w := w) (N := 1) rfl rfl rfl rfl by0 ?_; intro gb254 w3 n0_ BK254 GW254 GE254; clear HB; have HB := n0_; clear n0_))
 (try simp only [Act.put, List.setIfInBounds_toArray, List.set_cons_zero, List.set_cons_succ])
 go_cut [35] (fun v35 wc => ∃ (kq : Nat) (x35_1 : Bool), v35 = .bool x35_1 ∧ Aside0 (impl_InstrOK.j0 kq x35_1 a0_0 a0_1 a0_2 a0_3 a0_4 a0_5 a0_6 a0_7 a0_8 a0_9 a0_10 a0_11 a0_12 a0_13 a0_14 a0_15 a0_16 a0_17 a0_18 = some r) ∧ Aside0 (kq ≤ k) ∧ Aside0 (wc.heap[gb254]? = some (.cells #[.int .i64 a0_0, .int .i64 a0_1, .int .i64 a0_2, .int .i64 a0_3, .int .i64 a0_4, .int .i64 a0_5, .int .i64 a0_6, .int .i64 a0_7, .int .i64 a0_8, .int .i64 a0_9, .int .i64 a0_10, .int .i64 a0_11, .int .i64 a0_12, .int .i64 a0_13, .int .i64 a0_14, .int .i64 a0_15, .int .i64 a0_16, .int .i64 a0_17, .int .i64 a0_18] 30 (0, 0))) ∧ Aside0 (Below w.heap.size w wc))
 case first =>
  have H := HC2.out
  clear HC2
  replace H := Option.bind_eq_some_iff.mp H
  obtain ⟨t255, A40, H⟩ := H
  replace H : (if t255 = true then ((impl_within.f a0_18 0 15).bind fun t256 => (if t256 = true then ((impl_within.f a0_2 0 15).bind fun t257 => (if t257 = true then (if a0_2 = 0 then (impl_InstrOK.j0 k false a0_0 a0_1 a0_2 a0_3 a0_4 a0_5 a0_6 a0_7 a0_8 a0_9 a0_10 a0_11 a0_12 a0_13 a0_14 a0_15 a0_16 a0_17 a0_18) else ((impl_hasCond.f a0_0).bind fun t258 => (impl_InstrOK.j0 k (!t258) a0_0 a0_1 a0_2 a0_3 a0_4 a0_5 a0_6 a0_7 a0_8 a0_9 a0_10 a0_11 a0_12 a0_13 a0_14 a0_15 a0_16 a0_17 a0_18))) else (impl_InstrOK.j0 k true a0_0 a0_1 a0_2 a0_3 a0_4 a0_5 a0_6 a0_7 a0_8 a0_9 a0_10 a0_11 a0_12 a0_13 a0_14 a0_15 a0_16 a0_17 a0_18))) else (impl_InstrOK.j0 k true a0_0 a0_1 a0_2 a0_3 a0_4 a0_5 a0_6 a0_7 a0_8 a0_9 a0_10 a0_11 a0_12 a0_13 a0_14 a0_15 a0_16 a0_17 a0_18))) else (impl_InstrOK.j0 k true a0_0 a0_1 a0_2 a0_3 a0_4 a0_5 a0_6 a0_7 a0_8 a0_9 a0_10 a0_11 a0_12 a0_13 a0_14 a0_15 a0_16 a0_17 a0_18)) = some r := H
  have A4 := Aside0.mk A40
  clear A40
  by_cases c5 : t255 = true
  ·subst c5
   have H1 : ((impl_within.f a0_18 0 15).bind fun t256 => (if t256 = true then ((impl_within.f a0_2 0 15).bind fun t257 => (if t257 = true then (if a0_2 = 0 then (impl_InstrOK.j0 k false a0_0 a0_1 a0_2 a0_3 a0_4 a0_5 a0_6 a0_7 a0_8 a0_9 a0_10 a0_11 a0_12 a0_13 a0_14 a0_15 a0_16 a0_17 a0_18) else ((impl_hasCond.f a0_0).bind fun t258 => (impl_InstrOK.j0 k (!t258) a0_0 a0_1 a0_2 a0_3 a0_4 a0_5 a0_6 a0_7 a0_8 a0_9 a0_10 a0_11 a0_12 a0_13 a0_14 a0_15 a0_16 a0_17 a0_18))) else (impl_InstrOK.j0 k true a0_0 a0_1 a0_2 a0_3 a0_4 a0_5 a0_6 a0_7 a0_8 a0_9 a0_10 a0_11 a0_12 a0_13 a0_14 a0_15 a0_16 a0_17 a0_18))) else (impl_InstrOK.j0 k true a0_0 a0_1 a0_2 a0_3 a0_4 a0_5 a0_6 a0_7 a0_8 a0_9 a0_10 a0_11 a0_12 a0_13 a0_14 a0_15 a0_16 a0_17 a0_18))) = some r := by rw [if_pos rfl] at H; exact H
   clear H
   have H := H1
   clear H1
   replace H := Option.bind_eq_some_iff.mp H
   obtain ⟨t256, A60, H⟩ := H
   replace H : (if t256 = true then ((impl_within.f a0_2 0 15).bind fun t257 => (if t257 = true then (if a0_2 = 0 then (impl_InstrOK.j0 k false a0_0 a0_1 a0_2 a0_3 a0_4 a0_5 a0_6 a0_7 a0_8 a0_9 a0_10 a0_11 a0_12 a0_13 a0_14 a0_15 a0_16 a0_17 a0_18) else ((impl_hasCond.f a0_0).bind fun t258 => (impl_InstrOK.j0 k (!t258) a0_0 a0_1 a0_2 a0_3 a0_4 a0_5 a0_6 a0_7 a0_8 a0_9 a0_10 a0_11 a0_12 a0_13 a0_14 a0_15 a0_16 a0_17 a0_18))) else (impl_InstrOK.j0 k true a0_0 a0_1 a0_2 a0_3 a0_4 a0_5 a0_6 a0_7 a0_8 a0_9 a0_10 a0_11 a0_12 a0_13 a0_14 a0_15 a0_16 a0_17 a0_18))) else (impl_InstrOK.j0 k true a0_0 a0_1 a0_2 a0_3 a0_4 a0_5 a0_6 a0_7 a0_8 a0_9 a0_10 a0_11 a0_12 a0_13 a0_14 a0_15 a0_16 a0_17 a0_18)) = some r := H
   have A6 := Aside0.mk A60
   clear A60
   by_cases c7 : t256 = true
   ·subst c7
    have H1 : ((impl_within.f a0_2 0 15).bind fun t257 => (if t257 = true then (if a0_2 = 0 then (impl_InstrOK.j0 k false a0_0 a0_1 a0_2 a0_3 a0_4 a0_5 a0_6 a0_7 a0_8 a0_9 a0_10 a0_11 a0_12 a0_13 a0_14 a0_15 a0_16 a0_17 a0_18) else ((impl_hasCond.f a0_0).bind fun t258 => (impl_InstrOK.j0 k (!t258) a0_0 a0_1 a0_2 a0_3 a0_4 a0_5 a0_6 a0_7 a0_8 a0_9 a0_10 a0_11 a0_12 a0_13 a0_14 a0_15 a0_16 a0_17 a0_18))) else (impl_InstrOK.j0 k true a0_0 a0_1 a0_2 a0_3 a0_4 a0_5 a0_6 a0_7 a0_8 a0_9 a0_10 a0_11 a0_12 a0_13 a0_14 a0_15 a0_16 a0_17 a0_18))) = some r := by rw [if_pos rfl] at H; exact H
    clear H
    have H := H1
    clear H1
    replace H := Option.bind_eq_some_iff.mp H
    obtain ⟨t257, A80, H⟩ := H
    replace H : (if t257 = true then (if a0_2 = 0 then (impl_InstrOK.j0 k false a0_0 a0_1 a0_2 a0_3 a0_4 a0_5 a0_6 a0_7 a0_8 a0_9 a0_10 a0_11 a0_12 a0_13 a0_14 a0_15 a0_16 a0_17 a0_18) else ((impl_hasCond.f a0_0).bind fun t258 => (impl_InstrOK.j0 k (!t258) a0_0 a0_1 a0_2 a0_3 a0_4 a0_5 a0_6 a0_7 a0_8 a0_9 a0_10 a0_11 a0_12 a0_13 a0_14 a0_15 a0_16 a0_17 a0_18))) else (impl_InstrOK.j0 k true a0_0 a0_1 a0_2 a0_3 a0_4 a0_5 a0_6 a0_7 a0_8 a0_9 a0_10 a0_11 a0_12 a0_13 a0_14 a0_15 a0_16 a0_17 a0_18)) = some r := H
    have A8 := Aside0.mk A80
    clear A80
    by_cases c9 : t257 = true
    ·subst c9
     have H1 : (if a0_2 = 0 then (impl_InstrOK.j0 k false a0_0 a0_1 a0_2 a0_3 a0_4 a0_5 a0_6 a0_7 a0_8 a0_9 a0_10 a0_11 a0_12 a0_13 a0_14 a0_15 a0_16 a0_17 a0_18) else ((impl_hasCond.f a0_0).bind fun t258 => (impl_InstrOK.j0 k (!t258) a0_0 a0_1 a0_2 a0_3 a0_4 a0_5 a0_6 a0_7 a0_8 a0_9 a0_10 a0_11 a0_12 a0_13 a0_14 a0_15 a0_16 a0_17 a0_18))) = some r := by rw [if_pos rfl] at H; exact H
     clear H
     have H := H1
     clear H1
     by_cases c10 : a0_2 = 0
     ·rw [if_pos c10] at H
      have c10b0 : (a0_2 == 0) = true := beq_iff_eq.mpr c10
      have c10b1 : (a0_2 != 0) = false := bne_eq_false_iff_eq.mpr c10
      clear c10
      (first | rw [c10b0] | (simp only [i64_w, i32_w]; rw [c10b0]) | rw [c10b1] | skip)
      have H' := Aside0.mk H
      clear H
      obtain ⟨hcz11_0, hcz11_1, hcz11_2, hcz11_3, hcz11_4, hcz11_5, hcz11_6, hcz11_7, hcz11_8, hcz11_9, hcz11_10, hcz11_11, hcz11_12, hcz11_13, hcz11_14, hcz11_15, hcz11_16, hcz11_17, hcz11_18⟩ := cs19 BK254.out
      go_wp2_with (first | ((with_reducible refine gate_dst (N := 66) rfl ?_); (try refine gate_guard (by rfl) ?_); refine ldw 30 (.tmp 1) rfl rfl rfl by2 Try.underlying30 rfl by4 ?_) | ((with_reducible refine gate_dst (N := 90) rfl ?_); (try refine gate_guard (by rfl) ?_); refine ldw 30 (.tmp 1) rfl rfl rfl by2 Try.underlying30 rfl by4 ?_) | ((with_reducible refine gate_dst (N := 101) rfl ?_); (try refine gate_guard (by rfl) ?_); refine ldw 30 (.tmp 1) rfl rfl rfl by2 Try.underlying30 rfl by4 ?_) | ((with_reducible refine gate_dst (N := 131) rfl ?_); (try refine gate_guard (by rfl) ?_); refine ldw 30 (.tmp 1) rfl rfl rfl by2 Try.underlying30 rfl by4 ?_) | ((with_reducible refine gate_callee (f := 81) rfl ?_); refine goesL_ (some 11) rfl rfl Try.func81 by4 rfl #[.int .i64 a0_0] rfl by1 ?_; (with_reducible refine (impl_isOp.calls a0_0 true _ A4.out).mono ?_); rintro e w' ⟨rfl, ⟨nd, rfl⟩⟩; refine ⟨_, rfl, ?_⟩) | (go_at_call 58; (with_reducible refine (impl_within.calls a0_18 0 15 true _ A6.out).mono ?_); rintro e w' ⟨rfl, ⟨nd, rfl⟩⟩) | (go_at_call 58; (with_reducible refine (impl_within.calls a0_2 0 15 true _ A8.out).mono ?_); rintro e w' ⟨rfl, ⟨nd, rfl⟩⟩))
      go_meet
      case rel => exact ⟨_, (false), by8, H', ⟨by first | omega | exact Nat.le_refl _⟩, ⟨by (with_reducible repeat (first | refine blk_drewN ?_ _ | refine blk_drew ?_ | refine blk_alloc ?_ _)); exact BK254.out⟩, ⟨by repeat (first | (with_reducible first | exact HB.out | apply below_alloc | apply pw_below_drewN | apply below_drew1 | refine below_set ?_ GE254.out) | exact HB.out)⟩⟩
     ·rw [if_neg c10] at H
      have c10b0 : (a0_2 == 0) = false := beq_eq_false_iff_ne.mpr c10
      have c10b1 : (a0_2 != 0) = true := bne_iff_ne.mpr c10
      (first | rw [c10b0] | (simp only [i64_w, i32_w]; rw [c10b0]) | rw [c10b1] | skip)
      replace H := Option.bind_eq_some_iff.mp H
      obtain ⟨t258, A120, H⟩ := H
      replace H : (impl_InstrOK.j0 k (!t258) a0_0 a0_1 a0_2 a0_3 a0_4 a0_5 a0_6 a0_7 a0_8 a0_9 a0_10 a0_11 a0_12 a0_13 a0_14 a0_15 a0_16 a0_17 a0_18) = some r := H
      have A12 := Aside0.mk A120
      clear A120
      have H' := Aside0.mk H
      clear H
      obtain ⟨hcz13_0, hcz13_1, hcz13_2, hcz13_3, hcz13_4, hcz13_5, hcz13_6, hcz13_7, hcz13_8, hcz13_9, hcz13_10, hcz13_11, hcz13_12, hcz13_13, hcz13_14, hcz13_15, hcz13_16, hcz13_17, hcz13_18⟩ := cs19 BK254.out
      go_wp2_with (first | ((with_reducible refine gate_dst (N := 66) rfl ?_); (try refine gate_guard (by rfl) ?_); refine ldw 30 (.tmp 1) rfl rfl rfl by2 Try.underlying30 rfl by4 ?_) | ((with_reducible refine gate_dst (N := 90) rfl ?_); (try refine gate_guard (by rfl) ?_); refine ldw 30 (.tmp 1) rfl rfl rfl by2 Try.underlying30 rfl by4 ?_) | ((with_reducible refine gate_dst (N := 101) rfl ?_); (try refine gate_guard (by rfl) ?_); refine ldw 30 (.tmp 1) rfl rfl rfl by2 Try.underlying30 rfl by4 ?_) | ((with_reducible refine gate_dst (N := 131) rfl ?_); (try refine gate_guard (by rfl) ?_); refine ldw 30 (.tmp 1) rfl rfl rfl by2 Try.underlying30 rfl by4 ?_) | ((with_reducible refine gate_callee (f := 81) rfl ?_); refine goesL_ (some 11) rfl rfl Try.func81 by4 rfl #[.int .i64 a0_0] rfl by1 ?_; (with_reducible refine (impl_isOp.calls a0_0 true _ A4.out).mono ?_); rintro e w' ⟨rfl, ⟨nd, rfl⟩⟩; refine ⟨_, rfl, ?_⟩) | (go_at_call 58; (with_reducible refine (impl_within.calls a0_18 0 15 true _ A6.out).mono ?_); rintro e w' ⟨rfl, ⟨nd, rfl⟩⟩) | (go_at_call 58; (with_reducible refine (impl_within.calls a0_2 0 15 true _ A8.out).mono ?_); rintro e w' ⟨rfl, ⟨nd, rfl⟩⟩) | (go_at_call 82; (with_reducible refine (impl_hasCond.calls a0_0 t258 _ A12.out).mono ?_); rintro e w' ⟨rfl, ⟨nd, rfl⟩⟩))
      go_meet
      case rel => exact ⟨_, (!t258), by8, H', ⟨by first | omega | exact Nat.le_refl _⟩, ⟨by (with_reducible repeat (first | refine blk_drewN ?_ _ | refine blk_drew ?_ | refine blk_alloc ?_ _)); exact BK254.out⟩, ⟨by repeat (first | (with_reducible first | exact HB.out | apply below_alloc | apply pw_below_drewN | apply below_drew1 | refine below_set ?_ GE254.out) | exact HB.out)⟩⟩
    ·replace c9 := Bool.eq_false_iff.mpr c9
     subst c9
     have H1 : (impl_InstrOK.j0 k true a0_0 a0_1 a0_2 a0_3 a0_4 a0_5 a0_6 a0_7 a0_8 a0_9 a0_10 a0_11 a0_12 a0_13 a0_14 a0_15 a0_16 a0_17 a0_18) = some r := by rw [if_neg (show ¬ (false = true) by decide)] at H; exact H
     clear H
     have H := H1
     clear H1
     have H' := Aside0.mk H
     clear H
     obtain ⟨hcz14_0, hcz14_1, hcz14_2, hcz14_3, hcz14_4, hcz14_5, hcz14_6, hcz14_7, hcz14_8, hcz14_9, hcz14_10, hcz14_11, hcz14_12, hcz14_13, hcz14_14, hcz14_15, hcz14_16, hcz14_17, hcz14_18⟩ := cs19 BK254.out
     go_wp2_with (first | ((with_reducible refine gate_dst (N := 66) rfl ?_); (try refine gate_guard (by rfl) ?_); refine ldw 30 (.tmp 1) rfl rfl rfl by2 Try.underlying30 rfl by4 ?_) | ((with_reducible refine gate_dst (N := 90) rfl ?_); (try refine gate_guard (by rfl) ?_); refine ldw 30 (.tmp 1) rfl rfl rfl by2 Try.underlying30 rfl by4 ?_) | ((with_reducible refine gate_dst (N := 101) rfl ?_); (try refine gate_guard (by rfl) ?_); refine ldw 30 (.tmp 1) rfl rfl rfl by2 Try.underlying30 rfl by4 ?_) | ((with_reducible refine gate_dst (N := 131) rfl ?_); (try refine gate_guard (by rfl) ?_); refine ldw 30 (.tmp 1) rfl rfl rfl by2 Try.underlying30 rfl by4 ?_) | ((with_reducible refine gate_callee (f := 81) rfl ?_); refine goesL_ (some 11) rfl rfl Try.func81 by4 rfl #[.int .i64 a0_0] rfl by1 ?_; (with_reducible refine (impl_isOp.calls a0_0 true _ A4.out).mono ?_); rintro e w' ⟨rfl, ⟨nd, rfl⟩⟩; refine ⟨_, rfl, ?_⟩) | (go_at_call 58; (with_reducible refine (impl_within.calls a0_18 0 15 true _ A6.out).mono ?_); rintro e w' ⟨rfl, ⟨nd, rfl⟩⟩) | (go_at_call 58; (with_reducible refine (impl_within.calls a0_2 0 15 false _ A8.out).mono ?_); rintro e w' ⟨rfl, ⟨nd, rfl⟩⟩))
     go_meet
     case rel => exact ⟨_, (true), by8, H', ⟨by first | omega | exact Nat.le_refl _⟩, ⟨by (with_reducible repeat (first | refine blk_drewN ?_ _ | refine blk_drew ?_ | refine blk_alloc ?_ _)); exact BK254.out⟩, ⟨by repeat (first | (with_reducible first | exact HB.out | apply below_alloc | apply pw_below_drewN | apply below_drew1 | refine below_set ?_ GE254.out) | exact HB.out)⟩⟩
   ·replace c7 := Bool.eq_false_iff.mpr c7
    subst c7
    have H1 : (impl_InstrOK.j0 k true a0_0 a0_1 a0_2 a0_3 a0_4 a0_5 a0_6 a0_7 a0_8 a0_9 a0_10 a0_11 a0_12 a0_13 a0_14 a0_15 a0_16 a0_17 a0_18) = some r := by rw [if_neg (show ¬ (false = true) by decide)] at H; exact H
    clear H
    have H := H1
    clear H1
    have H' := Aside0.mk H
    clear H
    obtain ⟨hcz15_0, hcz15_1, hcz15_2, hcz15_3, hcz15_4, hcz15_5, hcz15_6, hcz15_7, hcz15_8, hcz15_9, hcz15_10, hcz15_11, hcz15_12, hcz15_13, hcz15_14, hcz15_15, hcz15_16, hcz15_17, hcz15_18⟩ := cs19 BK254.out
    go_wp2_with (first | ((with_reducible refine gate_dst (N := 66) rfl ?_); (try refine gate_guard (by rfl) ?_); refine ldw 30 (.tmp 1) rfl rfl rfl by2 Try.underlying30 rfl by4 ?_) | ((with_reducible refine gate_dst (N := 90) rfl ?_); (try refine gate_guard (by rfl) ?_); refine ldw 30 (.tmp 1) rfl rfl rfl by2 Try.underlying30 rfl by4 ?_) | ((with_reducible refine gate_dst (N := 101) rfl ?_); (try refine gate_guard (by rfl) ?_); refine ldw 30 (.tmp 1) rfl rfl rfl by2 Try.underlying30 rfl by4 ?_) | ((with_reducible refine gate_dst (N := 131) rfl ?_); (try refine gate_guard (by rfl) ?_); refine ldw 30 (.tmp 1) rfl rfl rfl by2 Try.underlying30 rfl by4 ?_) | ((with_reducible refine gate_callee (f := 81) rfl ?_); refine goesL_ (some 11) rfl rfl Try.func81 by4 rfl #[.int .i64 a0_0] rfl by1 ?_; (with_reducible refine (impl_isOp.calls a0_0 true _ A4.out).mono ?_); rintro e w' ⟨rfl, ⟨nd, rfl⟩⟩; refine ⟨_, rfl, ?_⟩) | (go_at_call 58; (with_reducible refine (impl_within.calls a0_18 0 15 false _ A6.out).mono ?_); rintro e w' ⟨rfl, ⟨nd, rfl⟩⟩))
    go_meet
    case rel => exact ⟨_, (true), by8, H', ⟨by first | omega | exact Nat.le_refl _⟩, ⟨by (with_reducible repeat (first | refine blk_drewN ?_ _ | refine blk_drew ?_ | refine blk_alloc ?_ _)); exact BK254.out⟩, ⟨by repeat (first | (with_reducible first | exact HB.out | apply below_alloc | apply pw_below_drewN | apply below_drew1 | refine below_set ?_ GE254.out) | exact HB.out)⟩⟩
  ·replace c5 := Bool.eq_false_iff.mpr c5
   subst c5
   have H1 : (impl_InstrOK.j0 k true a0_0 a0_1 a0_2 a0_3 a0_4 a0_5 a0_6 a0_7 a0_8 a0_9 a0_10 a0_11 a0_12 a0_13 a0_14 a0_15 a0_16 a0_17 a0_18) = some r := by rw [if_neg (show ¬ (false = true) by decide)] at H; exact H
   clear H
   have H := H1
   clear H1
   have H' := Aside0.mk H
   clear H
   obtain ⟨hcz16_0, hcz16_1, hcz16_2, hcz16_3, hcz16_4, hcz16_5, hcz16_6, hcz16_7, hcz16_8, hcz16_9, hcz16_10, hcz16_11, hcz16_12, hcz16_13, hcz16_14, hcz16_15, hcz16_16, hcz16_17, hcz16_18⟩ := cs19 BK254.out
   go_wp2_with (first | ((with_reducible refine gate_dst (N := 66) rfl ?_); (try refine gate_guard (by rfl) ?_); refine ldw 30 (.tmp 1) rfl rfl rfl by2 Try.underlying30 rfl by4 ?_) | ((with_reducible refine gate_dst (N := 90) rfl ?_); (try refine gate_guard (by rfl) ?_); refine ldw 30 (.tmp 1) rfl rfl rfl by2 Try.underlying30 rfl by4 ?_) | ((with_reducible refine gate_dst (N := 101) rfl ?_); (try refine gate_guard (by rfl) ?_); refine ldw 30 (.tmp 1) rfl rfl rfl by2 Try.underlying30 rfl by4 ?_) | ((with_reducible refine gate_dst (N := 131) rfl ?_); (try refine gate_guard (by rfl) ?_); refine ldw 30 (.tmp 1) rfl rfl rfl by2 Try.underlying30 rfl by4 ?_) | ((with_reducible refine gate_callee (f := 81) rfl ?_); refine goesL_ (some 11) rfl rfl Try.func81 by4 rfl #[.int .i64 a0_0] rfl by1 ?_; (with_reducible refine (impl_isOp.calls a0_0 false _ A4.out).mono ?_); rintro e w' ⟨rfl, ⟨nd, rfl⟩⟩; refine ⟨_, rfl, ?_⟩))
   go_meet
   case rel => exact ⟨_, (true), by8, H', ⟨by first | omega | exact Nat.le_refl _⟩, ⟨by (with_reducible repeat (first | refine blk_drewN ?_ _ | refine blk_drew ?_ | refine blk_alloc ?_ _)); exact BK254.out⟩, ⟨by repeat (first | (with_reducible first | exact HB.out | apply below_alloc | apply pw_below_drewN | apply below_drew1 | refine below_set ?_ GE254.out) | exact HB.out)⟩⟩
 case rest =>
  clear HC2
  (try clear c5); (try clear c7); (try clear c9); (try clear c10); (try clear c10b0); (try clear c10b1); (try clear hcz11_0); (try clear hcz11_1); (try clear hcz11_10); (try clear hcz11_11); (try clear hcz11_12); (try clear hcz11_13); (try clear hcz11_14); (try clear hcz11_15); (try clear hcz11_16); (try clear hcz11_17); (try clear hcz11_18); (try clear hcz11_2); (try clear hcz11_3); (try clear hcz11_4); (try clear hcz11_5); (try clear hcz11_6); (try clear hcz11_7); (try clear hcz11_8); (try clear hcz11_9); (try clear hcz13_0); (try clear hcz13_1); (try clear hcz13_10); (try clear hcz13_11); (try clear hcz13_12); (try clear hcz13_13); (try clear hcz13_14); (try clear hcz13_15); (try clear hcz13_16); (try clear hcz13_17); (try clear hcz13_18); (try clear hcz13_2); (try clear hcz13_3); (try clear hcz13_4); (try clear hcz13_5); (try clear hcz13_6); (try clear hcz13_7); (try clear hcz13_8); (try clear hcz13_9); (try clear hcz14_0); (try clear hcz14_1); (try clear hcz14_10); (try clear hcz14_11); (try clear hcz14_12); (try clear hcz14_13); (try clear hcz14_14); (try clear hcz14_15); (try clear hcz14_16); (try clear hcz14_17); (try clear hcz14_18); (try clear hcz14_2); (try clear hcz14_3); (try clear hcz14_4); (try clear hcz14_5); (try clear hcz14_6); (try clear hcz14_7); (try clear hcz14_8); (try clear hcz14_9); (try clear hcz15_0); (try clear hcz15_1); (try clear hcz15_10); (try clear hcz15_11); (try clear hcz15_12); (try clear hcz15_13); (try clear hcz15_14); (try clear hcz15_15); (try clear hcz15_16); (try clear hcz15_17); (try clear hcz15_18); (try clear hcz15_2); (try clear hcz15_3); (try clear hcz15_4); (try clear hcz15_5); (try clear hcz15_6); (try clear hcz15_7); (try clear hcz15_8); (try clear hcz15_9); (try clear hcz16_0); (try clear hcz16_1); (try clear hcz16_10); (try clear hcz16_11); (try clear hcz16_12); (try clear hcz16_13); (try clear hcz16_14); (try clear hcz16_15); (try clear hcz16_16); (try clear hcz16_17); (try clear hcz16_18); (try clear hcz16_2); (try clear hcz16_3); (try clear hcz16_4); (try clear hcz16_5); (try clear hcz16_6); (try clear hcz16_7); (try clear hcz16_8); (try clear hcz16_9)
  obtain ⟨kq, x35_1, rfl, HA, HJ1, BK254, HB⟩ := hcut
  cases kq with
  | zero => exact absurd HA.out (by simp [impl_InstrOK.j0])
  | succ kj1 =>
   have H := HA.out
   clear HA
   simp only [impl_InstrOK.j0] at H
   by_cases c17 : x35_1 = true
   ·subst c17
    have H1 : (some false) = some r := by rw [if_pos rfl] at H; exact H
    clear H
    have H := H1
    clear H1
    exact impl_InstrOK.e0
   ·replace c17 := Bool.eq_false_iff.mpr c17
    subst c17
    have H1 : ((impl_formsOf.f kj1 a0_0).bind fun bt259 => (impl_InstrOK.l0 kj1 bt259.2 false bt259.1 (bt259.1.length : Int) 0 a0_0 a0_1 a0_2 a0_3 a0_4 a0_5 a0_6 a0_7 a0_8 a0_9 a0_10 a0_11 a0_12 a0_13 a0_14 a0_15 a0_16 a0_17 a0_18)) = some r := by rw [if_neg (show ¬ (false = true) by decide)] at H; exact H
    clear H
    have H := H1
    clear H1
    replace H := Option.bind_eq_some_iff.mp H
    obtain ⟨⟨t259, t260⟩, A180, H⟩ := H
    replace H : (impl_InstrOK.l0 kj1 t260 false t259 (t259.length : Int) 0 a0_0 a0_1 a0_2 a0_3 a0_4 a0_5 a0_6 a0_7 a0_8 a0_9 a0_10 a0_11 a0_12 a0_13 a0_14 a0_15 a0_16 a0_17 a0_18) = some r := H
    have A18 := Aside0.mk A180
    clear A180
    have H' := Aside0.mk H
    clear H
    obtain ⟨hcz19_0, hcz19_1, hcz19_2, hcz19_3, hcz19_4, hcz19_5, hcz19_6, hcz19_7, hcz19_8, hcz19_9, hcz19_10, hcz19_11, hcz19_12, hcz19_13, hcz19_14, hcz19_15, hcz19_16, hcz19_17, hcz19_18⟩ := cs19 BK254.out
    go_wp2_with (first | ((with_reducible refine gate_dst (N := 66) rfl ?_); (try refine gate_guard (by rfl) ?_); refine ldw 30 (.tmp 1) rfl rfl rfl by2 Try.underlying30 rfl by4 ?_) | ((with_reducible refine gate_dst (N := 90) rfl ?_); (try refine gate_guard (by rfl) ?_); refine ldw 30 (.tmp 1) rfl rfl rfl by2 Try.underlying30 rfl by4 ?_) | ((with_reducible refine gate_dst (N := 101) rfl ?_); (try refine gate_guard (by rfl) ?_); refine ldw 30 (.tmp 1) rfl rfl rfl by2 Try.underlying30 rfl by4 ?_) | ((with_reducible refine gate_dst (N := 131) rfl ?_); (try refine gate_guard (by rfl) ?_); refine ldw 30 (.tmp 1) rfl rfl rfl by2 Try.underlying30 rfl by4 ?_) | ((with_reducible refine gate_callee (f := 83) rfl ?_); refine goesL_ (some 39) rfl rfl Try.func83 by4 rfl #[.int .i64 a0_0] rfl by1 ?_; (with_reducible refine (impl_formsOf.calls kj1 a0_0 t259 t260 _ A18.out).mono ?_); rintro e w20 ⟨v261, rfl, ho0, hb⟩; refine ⟨_, rfl, ?_⟩; have n0_ := Aside0.mk (Kd.R_lower ho0 (below_size by14)); have n1_ := Aside0.mk (blk_below by2 hb); have n2_ := Aside0.mk (below_step by14 hb); clear BK254; clear HB; have HO262 := n0_; have BK254 := n1_; have HB := n2_; clear n0_ n1_ n2_; (try clear hb); (try clear hb2); (try clear hk); (try clear hi); (try clear ho0); obtain ⟨Ao21, co21, eo21⟩ := Kd.R_slice HO262.out; subst eo21))
    go_loopg [5, 44] kj1 (fun kq v5 v44 w' => ∃ (x5_2 : Bool) (x44_2 : Int), v5 = .bool x5_2 ∧ v44 = .int .i64 x44_2 ∧ Aside0 (impl_InstrOK.l0 kq t260 x5_2 t259 (t259.length : Int) x44_2 a0_0 a0_1 a0_2 a0_3 a0_4 a0_5 a0_6 a0_7 a0_8 a0_9 a0_10 a0_11 a0_12 a0_13 a0_14 a0_15 a0_16 a0_17 a0_18 = some r) ∧ Aside0 (kq ≤ kj1) ∧ Aside0 (Kd.R (Kd.int .i64) 3 w' w.heap.size (fun _ => True) (.slice Ao21 t259.length co21) t259) ∧ Aside0 (w'.heap[gb254]? = some (.cells #[.int .i64 a0_0, .int .i64 a0_1, .int .i64 a0_2, .int .i64 a0_3, .int .i64 a0_4, .int .i64 a0_5, .int .i64 a0_6, .int .i64 a0_7, .int .i64 a0_8, .int .i64 a0_9, .int .i64 a0_10, .int .i64 a0_11, .int .i64 a0_12, .int .i64 a0_13, .int .i64 a0_14, .int .i64 a0_15, .int .i64 a0_16, .int .i64 a0_17, .int .i64 a0_18] 30 (0, 0))) ∧ Aside0 (Below w.heap.size w w'))
    case atStart => exact ⟨(false), (0), by8, by8, H', ⟨Nat.le_refl _⟩, ⟨by (with_reducible repeat (first | apply Kd.R_alloc | apply Kd.R_drewN | apply Kd.R_drew)); exact HO262.out⟩, ⟨by (with_reducible repeat (first | refine blk_drewN ?_ _ | refine blk_drew ?_ | refine blk_alloc ?_ _)); exact BK254.out⟩, ⟨by repeat (first | (with_reducible first | exact HB.out | apply below_alloc | apply pw_below_drewN | apply below_drew1 | refine below_set ?_ GE254.out) | exact HB.out)⟩⟩
    case round =>
     clear H'
     (try clear c5); (try clear c7); (try clear c9); (try clear c10); (try clear c10b0); (try clear c10b1); (try clear c17); (try clear hcz11_0); (try clear hcz11_1); (try clear hcz11_10); (try clear hcz11_11); (try clear hcz11_12); (try clear hcz11_13); (try clear hcz11_14); (try clear hcz11_15); (try clear hcz11_16); (try clear hcz11_17); (try clear hcz11_18); (try clear hcz11_2); (try clear hcz11_3); (try clear hcz11_4); (try clear hcz11_5); (try clear hcz11_6); (try clear hcz11_7); (try clear hcz11_8); (try clear hcz11_9); (try clear hcz13_0); (try clear hcz13_1); (try clear hcz13_10); (try clear hcz13_11); (try clear hcz13_12); (try clear hcz13_13); (try clear hcz13_14); (try clear hcz13_15); (try clear hcz13_16); (try clear hcz13_17); (try clear hcz13_18); (try clear hcz13_2); (try clear hcz13_3); (try clear hcz13_4); (try clear hcz13_5); (try clear hcz13_6); (try clear hcz13_7); (try clear hcz13_8); (try clear hcz13_9); (try clear hcz14_0); (try clear hcz14_1); (try clear hcz14_10); (try clear hcz14_11); (try clear hcz14_12); (try clear hcz14_13); (try clear hcz14_14); (try clear hcz14_15); (try clear hcz14_16); (try clear hcz14_17); (try clear hcz14_18); (try clear hcz14_2); (try clear hcz14_3); (try clear hcz14_4); (try clear hcz14_5); (try clear hcz14_6); (try clear hcz14_7); (try clear hcz14_8); (try clear hcz14_9); (try clear hcz15_0); (try clear hcz15_1); (try clear hcz15_10); (try clear hcz15_11); (try clear hcz15_12); (try clear hcz15_13); (try clear hcz15_14); (try clear hcz15_15); (try clear hcz15_16); (try clear hcz15_17); (try clear hcz15_18); (try clear hcz15_2); (try clear hcz15_3); (try clear hcz15_4); (try clear hcz15_5); (try clear hcz15_6); (try clear hcz15_7); (try clear hcz15_8); (try clear hcz15_9); (try clear hcz16_0); (try clear hcz16_1); (try clear hcz16_10); (try clear hcz16_11); (try clear hcz16_12); (try clear hcz16_13); (try clear hcz16_14); (try clear hcz16_15); (try clear hcz16_16); (try clear hcz16_17); (try clear hcz16_18); (try clear hcz16_2); (try clear hcz16_3); (try clear hcz16_4); (try clear hcz16_5); (try clear hcz16_6); (try clear hcz16_7); (try clear hcz16_8); (try clear hcz16_9); (try clear hcz19_0); (try clear hcz19_1); (try clear hcz19_10); (try clear hcz19_11); (try clear hcz19_12); (try clear hcz19_13); (try clear hcz19_14); (try clear hcz19_15); (try clear hcz19_16); (try clear hcz19_17); (try clear hcz19_18); (try clear hcz19_2); (try clear hcz19_3); (try clear hcz19_4); (try clear hcz19_5); (try clear hcz19_6); (try clear hcz19_7); (try clear hcz19_8); (try clear hcz19_9)
     obtain ⟨x5_2, x44_2, rfl, rfl, HA, HK2, HO_42, BK254, HB⟩ := hrel
     cases gk with
     | zero => exact absurd HA.out (by simp [impl_InstrOK.l0])
     | succ k2 =>
      have H := HA.out
      clear HA
      simp only [impl_InstrOK.l0] at H
      by_cases c22 : x44_2 < (t259.length : Int)
      ·rw [if_pos c22] at H
       have c22b0 : decide (x44_2 < (t259.length : Int)) = true := decide_eq_true c22
       clear c22
       by_cases c23 : 0 ≤ x44_2
       ·rw [if_pos c23] at H
        have c23b0 : decide (0 ≤ x44_2) = true := decide_eq_true c23
        clear c23
        by_cases c24 : x44_2 < (t259.length : Int)
        ·rw [if_pos c24] at H
         have c24b0 : decide (x44_2 < (t259.length : Int)) = true := decide_eq_true c24
         clear c24
         by_cases c25 : x5_2 = true
         ·subst c25
          have H1 : (impl_InstrOK.l0 k2 t260 true t259 (t259.length : Int) (wrap64 (x44_2 + 1)) a0_0 a0_1 a0_2 a0_3 a0_4 a0_5 a0_6 a0_7 a0_8 a0_9 a0_10 a0_11 a0_12 a0_13 a0_14 a0_15 a0_16 a0_17 a0_18) = some r := by rw [if_pos rfl] at H; exact H
          clear H
          have H := H1
          clear H1
          have H' := Aside0.mk H
          clear H
          have p263 : 0 ≤ (x44_2 : Int) := of_decide_eq_true by47
          have q263 : x44_2 < (t259.length : Int) := of_decide_eq_true by47
          obtain ⟨ad263, e263, hx263_0⟩ := Kd.at_int (Kd.R_reads' HO_42.out).2.2 x44_2 p263 q263
          cases e263
          replace p263 := eq_true p263
          replace q263 := eq_true q263
          go_wp2_with (first | ((with_reducible refine gate_dst (N := 66) rfl ?_); (try refine gate_guard (by rfl) ?_); refine ldw 30 (.tmp 1) rfl rfl rfl by2 Try.underlying30 rfl by4 ?_) | ((with_reducible refine gate_dst (N := 90) rfl ?_); (try refine gate_guard (by rfl) ?_); refine ldw 30 (.tmp 1) rfl rfl rfl by2 Try.underlying30 rfl by4 ?_) | ((with_reducible refine gate_dst (N := 101) rfl ?_); (try refine gate_guard (by rfl) ?_); refine ldw 30 (.tmp 1) rfl rfl rfl by2 Try.underlying30 rfl by4 ?_) | ((with_reducible refine gate_dst (N := 131) rfl ?_); (try refine gate_guard (by rfl) ?_); refine ldw 30 (.tmp 1) rfl rfl rfl by2 Try.underlying30 rfl by4 ?_))
          go_roundg k2
          case measure => have := HJ1.out; have := HK2.out; omega
          case rel => exact ⟨(true), (wrap64 (x44_2 + 1)), by8, by8, H', ⟨by have := HJ1.out; have := HK2.out; omega⟩, ⟨by (with_reducible repeat (first | apply Kd.R_alloc | apply Kd.R_drewN | apply Kd.R_drew)); exact HO_42.out⟩, ⟨by (with_reducible repeat (first | refine blk_drewN ?_ _ | refine blk_drew ?_ | refine blk_alloc ?_ _)); exact BK254.out⟩, ⟨by repeat (first | (with_reducible first | exact HB.out | apply below_alloc | apply pw_below_drewN | apply below_drew1 | refine below_set ?_ GE254.out) | exact HB.out)⟩⟩
         ·replace c25 := Bool.eq_false_iff.mpr c25
          subst c25
          have H1 : (impl_InstrOK.l0 k2 t260 ((rd t259 x44_2) == a0_1) t259 (t259.length : Int) (wrap64 (x44_2 + 1)) a0_0 a0_1 a0_2 a0_3 a0_4 a0_5 a0_6 a0_7 a0_8 a0_9 a0_10 a0_11 a0_12 a0_13 a0_14 a0_15 a0_16 a0_17 a0_18) = some r := by rw [if_neg (show ¬ (false = true) by decide)] at H; exact H
          clear H
          have H := H1
          clear H1
          have H' := Aside0.mk H
          clear H
          have p263 : 0 ≤ (x44_2 : Int) := of_decide_eq_true by47
          have q263 : x44_2 < (t259.length : Int) := of_decide_eq_true by47
          obtain ⟨ad263, e263, hx263_0⟩ := Kd.at_int (Kd.R_reads' HO_42.out).2.2 x44_2 p263 q263
          cases e263
          replace p263 := eq_true p263
          replace q263 := eq_true q263
          obtain ⟨hcz26_0, hcz26_1, hcz26_2, hcz26_3, hcz26_4, hcz26_5, hcz26_6, hcz26_7, hcz26_8, hcz26_9, hcz26_10, hcz26_11, hcz26_12, hcz26_13, hcz26_14, hcz26_15, hcz26_16, hcz26_17, hcz26_18⟩ := cs19 BK254.out
          go_wp2_with (first | ((with_reducible refine gate_dst (N := 66) rfl ?_); (try refine gate_guard (by rfl) ?_); refine ldw 30 (.tmp 1) rfl rfl rfl by2 Try.underlying30 rfl by4 ?_) | ((with_reducible refine gate_dst (N := 90) rfl ?_); (try refine gate_guard (by rfl) ?_); refine ldw 30 (.tmp 1) rfl rfl rfl by2 Try.underlying30 rfl by4 ?_) | ((with_reducible refine gate_dst (N := 101) rfl ?_); (try refine gate_guard (by rfl) ?_); refine ldw 30 (.tmp 1) rfl rfl rfl by2 Try.underlying30 rfl by4 ?_) | ((with_reducible refine gate_dst (N := 131) rfl ?_); (try refine gate_guard (by rfl) ?_); refine ldw 30 (.tmp 1) rfl rfl rfl by2 Try.underlying30 rfl by4 ?_))
          go_roundg k2
          case measure => have := HJ1.out; have := HK2.out; omega
          case rel => exact ⟨(((rd t259 x44_2) == a0_1)), (wrap64 (x44_2 + 1)), by8, by8, H', ⟨by have := HJ1.out; have := HK2.out; omega⟩, ⟨by (with_reducible repeat (first | apply Kd.R_alloc | apply Kd.R_drewN | apply Kd.R_drew)); exact HO_42.out⟩, ⟨by (with_reducible repeat (first | refine blk_drewN ?_ _ | refine blk_drew ?_ | refine blk_alloc ?_ _)); exact BK254.out⟩, ⟨by repeat (first | (with_reducible first | exact HB.out | apply below_alloc | apply pw_below_drewN | apply below_drew1 | refine below_set ?_ GE254.out) | exact HB.out)⟩⟩
        ·rw [if_neg c24] at H
         exact absurd H (by simp)
       ·rw [if_neg c23] at H
        exact absurd H (by simp)
      ·rw [if_neg c22] at H
       have c22b0 : decide (x44_2 < (t259.length : Int)) = false := decide_eq_false c22
       clear c22
       replace H := Option.bind_eq_some_iff.mp H
       obtain ⟨t264, A270, H⟩ := H
       replace H : ((impl_Operand_letter.f a0_11 a0_12 a0_13 a0_14 a0_15 a0_16 a0_17).bind fun t265 => (if t264.size + t265.size ≤ 9223372036854775807 then (if x5_2 = true then ((impl_isFrom.f a0_0 a0_1 a0_2 a0_3 a0_4 a0_5 a0_6 a0_7 a0_8 a0_9 a0_10 a0_11 a0_12 a0_13 a0_14 a0_15 a0_16 a0_17 a0_18).bind fun t266 => (if t266 = true then (if 1 + t260.size ≤ 9223372036854775807 then (if ((⟨#[32]⟩ : ByteArray) ++ t260).size + 1 ≤ 9223372036854775807 then (if 1 + (t264 ++ t265).size ≤ 9223372036854775807 then (if ((⟨#[32]⟩ : ByteArray) ++ (t264 ++ t265)).size + 1 ≤ 9223372036854775807 then ((strings_Contains.f (((⟨#[32]⟩ : ByteArray) ++ t260) ++ (⟨#[32]⟩ : ByteArray)) (((⟨#[32]⟩ : ByteArray) ++ (t264 ++ t265)) ++ (⟨#[32]⟩ : ByteArray))).bind fun t267 => (impl_InstrOK.j2 k2 (!t267) a0_0 a0_1 a0_2 a0_3 a0_4 a0_5 a0_6 a0_7 a0_8 a0_9 a0_10 a0_11 a0_12 a0_13 a0_14 a0_15 a0_16 a0_17 a0_18)) else (none)) else (none)) else (none)) else (none)) else (impl_InstrOK.j2 k2 true a0_0 a0_1 a0_2 a0_3 a0_4 a0_5 a0_6 a0_7 a0_8 a0_9 a0_10 a0_11 a0_12 a0_13 a0_14 a0_15 a0_16 a0_17 a0_18))) else (impl_InstrOK.j2 k2 true a0_0 a0_1 a0_2 a0_3 a0_4 a0_5 a0_6 a0_7 a0_8 a0_9 a0_10 a0_11 a0_12 a0_13 a0_14 a0_15 a0_16 a0_17 a0_18)) else (none))) = some r := H
       have A27 := Aside0.mk A270
       clear A270
       replace H := Option.bind_eq_some_iff.mp H
       obtain ⟨t265, A280, H⟩ := H
       replace H : (if t264.size + t265.size ≤ 9223372036854775807 then (if x5_2 = true then ((impl_isFrom.f a0_0 a0_1 a0_2 a0_3 a0_4 a0_5 a0_6 a0_7 a0_8 a0_9 a0_10 a0_11 a0_12 a0_13 a0_14 a0_15 a0_16 a0_17 a0_18).bind fun t266 => (if t266 = true then (if 1 + t260.size ≤ 9223372036854775807 then (if ((⟨#[32]⟩ : ByteArray) ++ t260).size + 1 ≤ 9223372036854775807 then (if 1 + (t264 ++ t265).size ≤ 9223372036854775807 then (if ((⟨#[32]⟩ : ByteArray) ++ (t264 ++ t265)).size + 1 ≤ 9223372036854775807 then ((strings_Contains.f (((⟨#[32]⟩ : ByteArray) ++ t260) ++ (⟨#[32]⟩ : ByteArray)) (((⟨#[32]⟩ : ByteArray) ++ (t264 ++ t265)) ++ (⟨#[32]⟩ : ByteArray))).bind fun t267 => (impl_InstrOK.j2 k2 (!t267) a0_0 a0_1 a0_2 a0_3 a0_4 a0_5 a0_6 a0_7 a0_8 a0_9 a0_10 a0_11 a0_12 a0_13 a0_14 a0_15 a0_16 a0_17 a0_18)) else (none)) else (none)) else (none)) else (none)) else (impl_InstrOK.j2 k2 true a0_0 a0_1 a0_2 a0_3 a0_4 a0_5 a0_6 a0_7 a0_8 a0_9 a0_10 a0_11 a0_12 a0_13 a0_14 a0_15 a0_16 a0_17 a0_18))) else (impl_InstrOK.j2 k2 true a0_0 a0_1 a0_2 a0_3 a0_4 a0_5 a0_6 a0_7 a0_8 a0_9 a0_10 a0_11 a0_12 a0_13 a0_14 a0_15 a0_16 a0_17 a0_18)) else (none)) = some r := H
       have A28 := Aside0.mk A280
       clear A280
       by_cases c29 : t264.size + t265.size ≤ 9223372036854775807
       ·rw [if_pos c29] at H
        have c29b0 := eq_true c29
        have c29b1 : decide (t264.size + t265.size ≤ 9223372036854775807) = true := decide_eq_true c29
        try have c29b2 : (9223372036854775807 < t264.size + t265.size) = False := eq_false (Nat.not_lt.2 c29)
        have HC30 := Aside0.mk H
        clear H
        try go_wp2
        have n0_ := Aside0.mk (Kd.R_drew HO_42.out)
        have n1_ := Aside0.mk (blk_drew BK254.out)
        have n2_ := Aside0.mk (below_drew1 HB.out)
        clear HO_42
        clear BK254
        clear HB
        have HO_42 := n0_
        have BK254 := n1_
        have HB := n2_
        clear n0_ n1_ n2_
        refine start_ (n := 8) (S := fun w' => w'.cell? ⟨gb254, 0, none⟩ = some (.int .i64 a0_0) ∧ w'.cell? ⟨gb254, 1, none⟩ = some (.int .i64 a0_1) ∧ w'.cell? ⟨gb254, 2, none⟩ = some (.int .i64 a0_2) ∧ w'.cell? ⟨gb254, 3, none⟩ = some (.int .i64 a0_3) ∧ w'.cell? ⟨gb254, 4, none⟩ = some (.int .i64 a0_4) ∧ w'.cell? ⟨gb254, 5, none⟩ = some (.int .i64 a0_5) ∧ w'.cell? ⟨gb254, 6, none⟩ = some (.int .i64 a0_6) ∧ w'.cell? ⟨gb254, 7, none⟩ = some (.int .i64 a0_7) ∧ w'.cell? ⟨gb254, 8, none⟩ = some (.int .i64 a0_8) ∧ w'.cell? ⟨gb254, 9, none⟩ = some (.int .i64 a0_9) ∧ w'.cell? ⟨gb254, 10, none⟩ = some (.int .i64 a0_10) ∧ w'.cell? ⟨gb254, 11, none⟩ = some (.int .i64 a0_11) ∧ w'.cell? ⟨gb254, 12, none⟩ = some (.int .i64 a0_12) ∧ w'.cell? ⟨gb254, 13, none⟩ = some (.int .i64 a0_13) ∧ w'.cell? ⟨gb254, 14, none⟩ = some (.int .i64 a0_14) ∧ w'.cell? ⟨gb254, 15, none⟩ = some (.int .i64 a0_15) ∧ w'.cell? ⟨gb254, 16, none⟩ = some (.int .i64 a0_16) ∧ w'.cell? ⟨gb254, 17, none⟩ = some (.int .i64 a0_17) ∧ w'.cell? ⟨gb254, 18, none⟩ = some (.int .i64 a0_18)) (ds := []) #[false, false, false, false, false, false, false, false] by4 rfl rfl ⟨(blk_cell BK254.out 0).trans rfl, (blk_cell BK254.out 1).trans rfl, (blk_cell BK254.out 2).trans rfl, (blk_cell BK254.out 3).trans rfl, (blk_cell BK254.out 4).trans rfl, (blk_cell BK254.out 5).trans rfl, (blk_cell BK254.out 6).trans rfl, (blk_cell BK254.out 7).trans rfl, (blk_cell BK254.out 8).trans rfl, (blk_cell BK254.out 9).trans rfl, (blk_cell BK254.out 10).trans rfl, (blk_cell BK254.out 11).trans rfl, (blk_cell BK254.out 12).trans rfl, (blk_cell BK254.out 13).trans rfl, (blk_cell BK254.out 14).trans rfl, (blk_cell BK254.out 15).trans rfl, (blk_cell BK254.out 16).trans rfl, (blk_cell BK254.out 17).trans rfl, (blk_cell BK254.out 18).trans rfl⟩ (fun hHeld => ?_); refine with_tabW impl_InstrOK.tab10 impl_InstrOK.bits10 (fun HT_ HW_ => ?_)
        generalize wr.drew = w31 at HO_42 BK254 HB hHeld ⊢
        refine pure_ (i := 0) (N := some 56) (v := ?_) (a' := ?_) #[true, false, false, false, false, false, false, false] rfl rfl (any_of HT_.out by4) (fun _ _ _ h => h) (Or.inl ⟨by rfl, ?_⟩) ?_ ?_
        rotate_left
        ·intro w'
         go_simp
         with_reducible rfl
        rotate_left
        ·simp only [Act.put, List.setIfInBounds_toArray, List.set_cons_zero, List.set_cons_succ, i64_w, i32_w]
         rfl
        refine pure_ (i := 3) (N := some 59) (v := ?_) (a' := ?_) #[true, false, false, true, false, false, false, false] rfl rfl (any_of HT_.out by4) (fun _ _ _ h => h) (Or.inl ⟨by rfl, ?_⟩) ?_ ?_
        rotate_left
        ·intro w'
         go_simp
         with_reducible rfl
        rotate_left
        ·simp only [Act.put, List.setIfInBounds_toArray, List.set_cons_zero, List.set_cons_succ, i64_w, i32_w]
         rfl
        refine take_ (i := 1) (N := some 57) (v := ?_) (a' := ?_) #[true, true, false, true, false, false, false, false] rfl rfl (take_ofW HT_.out HW_.out by4) (fun _ _ _ h => h) (Or.inl ⟨by rfl, ?_⟩) hHeld ?_ ?_
        rotate_left
        ·rintro w' ⟨s0, s1, s2, s3, s4, s5, s6, s7, s8, s9, s10, s11, s12, s13, s14, s15, s16, s17, s18⟩
         go_simp
         with_reducible rfl
        rotate_left
        ·simp only [Act.put, List.setIfInBounds_toArray, List.set_cons_zero, List.set_cons_succ, i64_w, i32_w]
         rfl
        refine take_ (i := 4) (N := some 60) (v := ?_) (a' := ?_) #[true, true, false, true, true, false, false, false] rfl rfl (take_ofW HT_.out HW_.out by4) (fun _ _ _ h => h) (Or.inl ⟨by rfl, ?_⟩) hHeld ?_ ?_
        rotate_left
        ·rintro w' ⟨s0, s1, s2, s3, s4, s5, s6, s7, s8, s9, s10, s11, s12, s13, s14, s15, s16, s17, s18⟩
         go_simp
         with_reducible rfl
        rotate_left
        ·simp only [Act.put, List.setIfInBounds_toArray, List.set_cons_zero, List.set_cons_succ, i64_w, i32_w]
         rfl
        refine one_ (i := 2) (N := some 58) #[true, true, true, true, true, false, false, false] rfl rfl (one_of HT_.out by4) (by decide) (fun K hK => ?_)
        refine goes_ Try.func84 by4 rfl #[.agg #[.int .i64 a0_4, .int .i64 a0_5, .int .i64 a0_6, .int .i64 a0_7, .int .i64 a0_8, .int .i64 a0_9, .int .i64 a0_10]] (by rfl) rfl rfl by1 ?_
        with_reducible refine (impl_Operand_letter.calls a0_4 a0_5 a0_6 a0_7 a0_8 a0_9 a0_10 t264 _ A27.out).mono ?_
        rintro e w32 ⟨rfl, hb⟩
        refine ⟨_, rfl, ?_⟩
        have n0_ := Aside0.mk (Kd.R_below by91 hb)
        have n1_ := Aside0.mk (blk_below by2 hb)
        have n2_ := Aside0.mk (below_step by14 hb)
        clear HO_42
        clear BK254
        clear HB
        have HO_42 := n0_
        have BK254 := n1_
        have HB := n2_
        clear n0_ n1_ n2_
        (try clear hb)
        (try clear hb2)
        (try clear hk)
        (try clear hi)
        refine hK.out _ _ ⟨(blk_cell BK254.out 0).trans rfl, (blk_cell BK254.out 1).trans rfl, (blk_cell BK254.out 2).trans rfl, (blk_cell BK254.out 3).trans rfl, (blk_cell BK254.out 4).trans rfl, (blk_cell BK254.out 5).trans rfl, (blk_cell BK254.out 6).trans rfl, (blk_cell BK254.out 7).trans rfl, (blk_cell BK254.out 8).trans rfl, (blk_cell BK254.out 9).trans rfl, (blk_cell BK254.out 10).trans rfl, (blk_cell BK254.out 11).trans rfl, (blk_cell BK254.out 12).trans rfl, (blk_cell BK254.out 13).trans rfl, (blk_cell BK254.out 14).trans rfl, (blk_cell BK254.out 15).trans rfl, (blk_cell BK254.out 16).trans rfl, (blk_cell BK254.out 17).trans rfl, (blk_cell BK254.out 18).trans rfl⟩ (fun hHeld => ?_)
        clear hK K
        refine norm_ (a' := ?_) ?_ ?_
        rotate_left
        ·show Act.put _ (some 58) _ = _
         simp only [Act.put, List.setIfInBounds_toArray, List.set_cons_zero, List.set_cons_succ, i64_w, i32_w]
         rfl
        refine one_ (i := 5) (N := some 61) #[true, true, true, true, true, true, false, false] rfl rfl (one_of HT_.out by4) (by decide) (fun K hK => ?_)
        refine goes_ Try.func84 by4 rfl #[.agg #[.int .i64 a0_11, .int .i64 a0_12, .int .i64 a0_13, .int .i64 a0_14, .int .i64 a0_15, .int .i64 a0_16, .int .i64 a0_17]] (by rfl) rfl rfl by1 ?_
        with_reducible refine (impl_Operand_letter.calls a0_11 a0_12 a0_13 a0_14 a0_15 a0_16 a0_17 t265 _ A28.out).mono ?_
        rintro e w33 ⟨rfl, hb⟩
        refine ⟨_, rfl, ?_⟩
        have n0_ := Aside0.mk (Kd.R_below by91 hb)
        have n1_ := Aside0.mk (blk_below by2 hb)
        have n2_ := Aside0.mk (below_step by14 hb)
        clear HO_42
        clear BK254
        clear HB
        have HO_42 := n0_
        have BK254 := n1_
        have HB := n2_
        clear n0_ n1_ n2_
        (try clear hb)
        (try clear hb2)
        (try clear hk)
        (try clear hi)
        refine hK.out _ _ ⟨(blk_cell BK254.out 0).trans rfl, (blk_cell BK254.out 1).trans rfl, (blk_cell BK254.out 2).trans rfl, (blk_cell BK254.out 3).trans rfl, (blk_cell BK254.out 4).trans rfl, (blk_cell BK254.out 5).trans rfl, (blk_cell BK254.out 6).trans rfl, (blk_cell BK254.out 7).trans rfl, (blk_cell BK254.out 8).trans rfl, (blk_cell BK254.out 9).trans rfl, (blk_cell BK254.out 10).trans rfl, (blk_cell BK254.out 11).trans rfl, (blk_cell BK254.out 12).trans rfl, (blk_cell BK254.out 13).trans rfl, (blk_cell BK254.out 14).trans rfl, (blk_cell BK254.out 15).trans rfl, (blk_cell BK254.out 16).trans rfl, (blk_cell BK254.out 17).trans rfl, (blk_cell BK254.out 18).trans rfl⟩ (fun hHeld => ?_)
        clear hK K
        refine norm_ (a' := ?_) ?_ ?_
        rotate_left
        ·show Act.put _ (some 61) _ = _
         simp only [Act.put, List.setIfInBounds_toArray, List.set_cons_zero, List.set_cons_succ, i64_w, i32_w]
         rfl
        refine pure_ (i := 6) (N := some 62) (v := ?_) (a' := ?_) #[true, true, true, true, true, true, true, false] rfl rfl (any_of HT_.out by4) (fun _ _ _ h => h) (Or.inl ⟨by rfl, ?_⟩) ?_ ?_
        rotate_left
        ·intro w'
         go_simp
         with_reducible rfl
        rotate_left
        ·simp only [Act.put, List.setIfInBounds_toArray, List.set_cons_zero, List.set_cons_succ, i64_w, i32_w]
         rfl
        refine pure_ (i := 7) (N := some 8) (v := ?_) (a' := ?_) #[true, true, true, true, true, true, true, true] rfl rfl (any_of HT_.out by4) (fun _ _ _ h => h) (Or.inl ⟨by rfl, ?_⟩) ?_ ?_
        rotate_left
        ·intro w'
         go_simp
         with_reducible rfl
        rotate_left
        ·simp only [Act.put, List.setIfInBounds_toArray, List.set_cons_zero, List.set_cons_succ, i64_w, i32_w]
         rfl
        refine done_ (done_of HT_.out by4) ?_
        go_upto_region 11 with (first | ((with_reducible refine gate_dst (N := 66) rfl ?_); (try refine gate_guard (by rfl) ?_); refine ldw 30 (.tmp 1) rfl rfl rfl by2 Try.underlying30 rfl by4 ?_) | ((with_reducible refine gate_dst (N := 90) rfl ?_); (try refine gate_guard (by rfl) ?_); refine ldw 30 (.tmp 1) rfl rfl rfl by2 Try.underlying30 rfl by4 ?_) | ((with_reducible refine gate_dst (N := 101) rfl ?_); (try refine gate_guard (by rfl) ?_); refine ldw 30 (.tmp 1) rfl rfl rfl by2 Try.underlying30 rfl by4 ?_) | ((with_reducible refine gate_dst (N := 131) rfl ?_); (try refine gate_guard (by rfl) ?_); refine ldw 30 (.tmp 1) rfl rfl rfl by2 Try.underlying30 rfl by4 ?_))
        go_cut [79] (fun v79 wc => ∃ (kq : Nat) (x79_29 : Bool), v79 = .bool x79_29 ∧ Aside0 (impl_InstrOK.j2 kq x79_29 a0_0 a0_1 a0_2 a0_3 a0_4 a0_5 a0_6 a0_7 a0_8 a0_9 a0_10 a0_11 a0_12 a0_13 a0_14 a0_15 a0_16 a0_17 a0_18 = some r) ∧ Aside0 (kq ≤ k2) ∧ Aside0 (wc.heap[gb254]? = some (.cells #[.int .i64 a0_0, .int .i64 a0_1, .int .i64 a0_2, .int .i64 a0_3, .int .i64 a0_4, .int .i64 a0_5, .int .i64 a0_6, .int .i64 a0_7, .int .i64 a0_8, .int .i64 a0_9, .int .i64 a0_10, .int .i64 a0_11, .int .i64 a0_12, .int .i64 a0_13, .int .i64 a0_14, .int .i64 a0_15, .int .i64 a0_16, .int .i64 a0_17, .int .i64 a0_18] 30 (0, 0))) ∧ Aside0 (Below w.heap.size w wc))
        case first =>
         have H := HC30.out
         clear HC30
         by_cases c34 : x5_2 = true
         ·subst c34
          have H1 : ((impl_isFrom.f a0_0 a0_1 a0_2 a0_3 a0_4 a0_5 a0_6 a0_7 a0_8 a0_9 a0_10 a0_11 a0_12 a0_13 a0_14 a0_15 a0_16 a0_17 a0_18).bind fun t266 => (if t266 = true then (if 1 + t260.size ≤ 9223372036854775807 then (if ((⟨#[32]⟩ : ByteArray) ++ t260).size + 1 ≤ 9223372036854775807 then (if 1 + (t264 ++ t265).size ≤ 9223372036854775807 then (if ((⟨#[32]⟩ : ByteArray) ++ (t264 ++ t265)).size + 1 ≤ 9223372036854775807 then ((strings_Contains.f (((⟨#[32]⟩ : ByteArray) ++ t260) ++ (⟨#[32]⟩ : ByteArray)) (((⟨#[32]⟩ : ByteArray) ++ (t264 ++ t265)) ++ (⟨#[32]⟩ : ByteArray))).bind fun t267 => (impl_InstrOK.j2 k2 (!t267) a0_0 a0_1 a0_2 a0_3 a0_4 a0_5 a0_6 a0_7 a0_8 a0_9 a0_10 a0_11 a0_12 a0_13 a0_14 a0_15 a0_16 a0_17 a0_18)) else (none)) else (none)) else (none)) else (none)) else (impl_InstrOK.j2 k2 true a0_0 a0_1 a0_2 a0_3 a0_4 a0_5 a0_6 a0_7 a0_8 a0_9 a0_10 a0_11 a0_12 a0_13 a0_14 a0_15 a0_16 a0_17 a0_18))) = some r := by rw [if_pos rfl] at H; exact H
          clear H
          have H := H1
          clear H1
          replace H := Option.bind_eq_some_iff.mp H
          obtain ⟨t266, A350, H⟩ := H
          replace H : (if t266 = true then (if 1 + t260.size ≤ 9223372036854775807 then (if ((⟨#[32]⟩ : ByteArray) ++ t260).size + 1 ≤ 9223372036854775807 then (if 1 + (t264 ++ t265).size ≤ 9223372036854775807 then (if ((⟨#[32]⟩ : ByteArray) ++ (t264 ++ t265)).size + 1 ≤ 9223372036854775807 then ((strings_Contains.f (((⟨#[32]⟩ : ByteArray) ++ t260) ++ (⟨#[32]⟩ : ByteArray)) (((⟨#[32]⟩ : ByteArray) ++ (t264 ++ t265)) ++ (⟨#[32]⟩ : ByteArray))).bind fun t267 => (impl_InstrOK.j2 k2 (!t267) a0_0 a0_1 a0_2 a0_3 a0_4 a0_5 a0_6 a0_7 a0_8 a0_9 a0_10 a0_11 a0_12 a0_13 a0_14 a0_15 a0_16 a0_17 a0_18)) else (none)) else (none)) else (none)) else (none)) else (impl_InstrOK.j2 k2 true a0_0 a0_1 a0_2 a0_3 a0_4 a0_5 a0_6 a0_7 a0_8 a0_9 a0_10 a0_11 a0_12 a0_13 a0_14 a0_15 a0_16 a0_17 a0_18)) = some r := H
          have A35 := Aside0.mk A350
          clear A350
          by_cases c36 : t266 = true
          ·subst c36
           have H1 : (if 1 + t260.size ≤ 9223372036854775807 then (if ((⟨#[32]⟩ : ByteArray) ++ t260).size + 1 ≤ 9223372036854775807 then (if 1 + (t264 ++ t265).size ≤ 9223372036854775807 then (if ((⟨#[32]⟩ : ByteArray) ++ (t264 ++ t265)).size + 1 ≤ 9223372036854775807 then ((strings_Contains.f (((⟨#[32]⟩ : ByteArray) ++ t260) ++ (⟨#[32]⟩ : ByteArray)) (((⟨#[32]⟩ : ByteArray) ++ (t264 ++ t265)) ++ (⟨#[32]⟩ : ByteArray))).bind fun t267 => (impl_InstrOK.j2 k2 (!t267) a0_0 a0_1 a0_2 a0_3 a0_4 a0_5 a0_6 a0_7 a0_8 a0_9 a0_10 a0_11 a0_12 a0_13 a0_14 a0_15 a0_16 a0_17 a0_18)) else (none)) else (none)) else (none)) else (none)) = some r := by rw [if_pos rfl] at H; exact H
           clear H
           have H := H1
           clear H1
           by_cases c37 : 1 + t260.size ≤ 9223372036854775807
           ·rw [if_pos c37] at H
            have c37b0 := eq_true c37
            have c37b1 : decide (1 + t260.size ≤ 9223372036854775807) = true := decide_eq_true c37
            try have c37b2 : (9223372036854775807 < 1 + t260.size) = False := eq_false (Nat.not_lt.2 c37)
            by_cases c38 : ((⟨#[32]⟩ : ByteArray) ++ t260).size + 1 ≤ 9223372036854775807
            ·rw [if_pos c38] at H
             have c38b0 := eq_true c38
             have c38b1 : decide (((⟨#[32]⟩ : ByteArray) ++ t260).size + 1 ≤ 9223372036854775807) = true := decide_eq_true c38
             try have c38b2 : (9223372036854775807 < ((⟨#[32]⟩ : ByteArray) ++ t260).size + 1) = False := eq_false (Nat.not_lt.2 c38)
             have c38b4 := c38b2
             (try simp only [ByteArray.size_append, show ((⟨#[32]⟩ : ByteArray)).size = 1 from rfl] at c38b4)
             by_cases c39 : 1 + (t264 ++ t265).size ≤ 9223372036854775807
             ·rw [if_pos c39] at H
              have c39b0 := eq_true c39
              have c39b1 : decide (1 + (t264 ++ t265).size ≤ 9223372036854775807) = true := decide_eq_true c39
              try have c39b2 : (9223372036854775807 < 1 + (t264 ++ t265).size) = False := eq_false (Nat.not_lt.2 c39)
              have c39b4 := c39b2
              (try simp only [ByteArray.size_append] at c39b4)
              by_cases c40 : ((⟨#[32]⟩ : ByteArray) ++ (t264 ++ t265)).size + 1 ≤ 9223372036854775807
              ·rw [if_pos c40] at H
               have c40b0 := eq_true c40
               have c40b1 : decide (((⟨#[32]⟩ : ByteArray) ++ (t264 ++ t265)).size + 1 ≤ 9223372036854775807) = true := decide_eq_true c40
               try have c40b2 : (9223372036854775807 < ((⟨#[32]⟩ : ByteArray) ++ (t264 ++ t265)).size + 1) = False := eq_false (Nat.not_lt.2 c40)
               have c40b4 := c40b2
               (try simp only [ByteArray.size_append, show ((⟨#[32]⟩ : ByteArray)).size = 1 from rfl] at c40b4)
               replace H := Option.bind_eq_some_iff.mp H
               obtain ⟨t267, A410, H⟩ := H
               replace H : (impl_InstrOK.j2 k2 (!t267) a0_0 a0_1 a0_2 a0_3 a0_4 a0_5 a0_6 a0_7 a0_8 a0_9 a0_10 a0_11 a0_12 a0_13 a0_14 a0_15 a0_16 a0_17 a0_18) = some r := H
               have A41 := Aside0.mk A410
               clear A410
               have H' := Aside0.mk H
               clear H
               obtain ⟨hcz42_0, hcz42_1, hcz42_2, hcz42_3, hcz42_4, hcz42_5, hcz42_6, hcz42_7, hcz42_8, hcz42_9, hcz42_10, hcz42_11, hcz42_12, hcz42_13, hcz42_14, hcz42_15, hcz42_16, hcz42_17, hcz42_18⟩ := cs19 BK254.out
               go_wp2_with (first | ((with_reducible refine gate_dst (N := 66) rfl ?_); (try refine gate_guard (by rfl) ?_); refine ldw 30 (.tmp 1) rfl rfl rfl by2 Try.underlying30 rfl by4 ?_) | ((with_reducible refine gate_dst (N := 90) rfl ?_); (try refine gate_guard (by rfl) ?_); refine ldw 30 (.tmp 1) rfl rfl rfl by2 Try.underlying30 rfl by4 ?_) | ((with_reducible refine gate_dst (N := 101) rfl ?_); (try refine gate_guard (by rfl) ?_); refine ldw 30 (.tmp 1) rfl rfl rfl by2 Try.underlying30 rfl by4 ?_) | ((with_reducible refine gate_dst (N := 131) rfl ?_); (try refine gate_guard (by rfl) ?_); refine ldw 30 (.tmp 1) rfl rfl rfl by2 Try.underlying30 rfl by4 ?_) | (go_at_call 85; (with_reducible refine (impl_isFrom.calls a0_0 a0_1 a0_2 a0_3 a0_4 a0_5 a0_6 a0_7 a0_8 a0_9 a0_10 a0_11 a0_12 a0_13 a0_14 a0_15 a0_16 a0_17 a0_18 true _ A35.out).mono ?_); rintro e w43 ⟨rfl, hb⟩; have n0_ := Aside0.mk (Kd.R_below by91 hb); have n1_ := Aside0.mk (blk_below by2 hb); have n2_ := Aside0.mk (below_step by14 hb); clear HO_42; clear BK254; clear HB; have HO_42 := n0_; have BK254 := n1_; have HB := n2_; clear n0_ n1_ n2_; (try clear hb); (try clear hb2); (try clear hk); (try clear hi)) | (go_at_call 86; (with_reducible refine (strings_Contains.calls (HGL0 := by23) (((⟨#[32]⟩ : ByteArray) ++ t260) ++ (⟨#[32]⟩ : ByteArray)) (((⟨#[32]⟩ : ByteArray) ++ (t264 ++ t265)) ++ (⟨#[32]⟩ : ByteArray)) t267 _ A41.out).mono ?_); rintro e w' ⟨rfl, ⟨nd, rfl⟩⟩))
               go_meet
               case rel => exact ⟨_, (!t267), by8, H', ⟨by have := HJ1.out; have := HK2.out; first | omega | exact Nat.le_refl _⟩, ⟨by (with_reducible repeat (first | refine blk_drewN ?_ _ | refine blk_drew ?_ | refine blk_alloc ?_ _)); exact BK254.out⟩, ⟨by repeat (first | (with_reducible first | exact HB.out | apply below_alloc | apply pw_below_drewN | apply below_drew1 | refine below_set ?_ GE254.out) | exact HB.out)⟩⟩
              ·rw [if_neg c40] at H
               exact absurd H (by simp)
             ·rw [if_neg c39] at H
              exact absurd H (by simp)
            ·rw [if_neg c38] at H
             exact absurd H (by simp)
           ·rw [if_neg c37] at H
            exact absurd H (by simp)
          ·replace c36 := Bool.eq_false_iff.mpr c36
           subst c36
           have H1 : (impl_InstrOK.j2 k2 true a0_0 a0_1 a0_2 a0_3 a0_4 a0_5 a0_6 a0_7 a0_8 a0_9 a0_10 a0_11 a0_12 a0_13 a0_14 a0_15 a0_16 a0_17 a0_18) = some r := by rw [if_neg (show ¬ (false = true) by decide)] at H; exact H
           clear H
           have H := H1
           clear H1
           have H' := Aside0.mk H
           clear H
           obtain ⟨hcz44_0, hcz44_1, hcz44_2, hcz44_3, hcz44_4, hcz44_5, hcz44_6, hcz44_7, hcz44_8, hcz44_9, hcz44_10, hcz44_11, hcz44_12, hcz44_13, hcz44_14, hcz44_15, hcz44_16, hcz44_17, hcz44_18⟩ := cs19 BK254.out
           go_wp2_with (first | ((with_reducible refine gate_dst (N := 66) rfl ?_); (try refine gate_guard (by rfl) ?_); refine ldw 30 (.tmp 1) rfl rfl rfl by2 Try.underlying30 rfl by4 ?_) | ((with_reducible refine gate_dst (N := 90) rfl ?_); (try refine gate_guard (by rfl) ?_); refine ldw 30 (.tmp 1) rfl rfl rfl by2 Try.underlying30 rfl by4 ?_) | ((with_reducible refine gate_dst (N := 101) rfl ?_); (try refine gate_guard (by rfl) ?_); refine ldw 30 (.tmp 1) rfl rfl rfl by2 Try.underlying30 rfl by4 ?_) | ((with_reducible refine gate_dst (N := 131) rfl ?_); (try refine gate_guard (by rfl) ?_); refine ldw 30 (.tmp 1) rfl rfl rfl by2 Try.underlying30 rfl by4 ?_) | (go_at_call 85; (with_reducible refine (impl_isFrom.calls a0_0 a0_1 a0_2 a0_3 a0_4 a0_5 a0_6 a0_7 a0_8 a0_9 a0_10 a0_11 a0_12 a0_13 a0_14 a0_15 a0_16 a0_17 a0_18 false _ A35.out).mono ?_); rintro e w45 ⟨rfl, hb⟩; have n0_ := Aside0.mk (Kd.R_below by91 hb); have n1_ := Aside0.mk (blk_below by2 hb); have n2_ := Aside0.mk (below_step by14 hb); clear HO_42; clear BK254; clear HB; have HO_42 := n0_; have BK254 := n1_; have HB := n2_; clear n0_ n1_ n2_; (try clear hb); (try clear hb2); (try clear hk); (try clear hi)))
           go_meet
           case rel => exact ⟨_, (true), by8, H', ⟨by have := HJ1.out; have := HK2.out; first | omega | exact Nat.le_refl _⟩, ⟨by (with_reducible repeat (first | refine blk_drewN ?_ _ | refine blk_drew ?_ | refine blk_alloc ?_ _)); exact BK254.out⟩, ⟨by repeat (first | (with_reducible first | exact HB.out | apply below_alloc | apply pw_below_drewN | apply below_drew1 | refine below_set ?_ GE254.out) | exact HB.out)⟩⟩
         ·replace c34 := Bool.eq_false_iff.mpr c34
          subst c34
          have H1 : (impl_InstrOK.j2 k2 true a0_0 a0_1 a0_2 a0_3 a0_4 a0_5 a0_6 a0_7 a0_8 a0_9 a0_10 a0_11 a0_12 a0_13 a0_14 a0_15 a0_16 a0_17 a0_18) = some r := by rw [if_neg (show ¬ (false = true) by decide)] at H; exact H
          clear H
          have H := H1
          clear H1
          have H' := Aside0.mk H
          clear H
          go_wp2_with (first | ((with_reducible refine gate_dst (N := 66) rfl ?_); (try refine gate_guard (by rfl) ?_); refine ldw 30 (.tmp 1) rfl rfl rfl by2 Try.underlying30 rfl by4 ?_) | ((with_reducible refine gate_dst (N := 90) rfl ?_); (try refine gate_guard (by rfl) ?_); refine ldw 30 (.tmp 1) rfl rfl rfl by2 Try.underlying30 rfl by4 ?_) | ((with_reducible refine gate_dst (N := 101) rfl ?_); (try refine gate_guard (by rfl) ?_); refine ldw 30 (.tmp 1) rfl rfl rfl by2 Try.underlying30 rfl by4 ?_) | ((with_reducible refine gate_dst (N := 131) rfl ?_); (try refine gate_guard (by rfl) ?_); refine ldw 30 (.tmp 1) rfl rfl rfl by2 Try.underlying30 rfl by4 ?_))
          go_meet
          case rel => exact ⟨_, (true), by8, H', ⟨by have := HJ1.out; have := HK2.out; first | omega | exact Nat.le_refl _⟩, ⟨by (with_reducible repeat (first | refine blk_drewN ?_ _ | refine blk_drew ?_ | refine blk_alloc ?_ _)); exact BK254.out⟩, ⟨by repeat (first | (with_reducible first | exact HB.out | apply below_alloc | apply pw_below_drewN | apply below_drew1 | refine below_set ?_ GE254.out) | exact HB.out)⟩⟩
        case rest =>
         clear HC30
         (try clear c5); (try clear c7); (try clear c9); (try clear c10); (try clear c10b0); (try clear c10b1); (try clear c17); (try clear c22); (try clear c22b0); (try clear c23); (try clear c23b0); (try clear c24); (try clear c24b0); (try clear c25); (try clear c29); (try clear c29b0); (try clear c29b1); (try clear c29b2); (try clear c34); (try clear c36); (try clear c37); (try clear c37b0); (try clear c37b1); (try clear c37b2); (try clear c38); (try clear c38b0); (try clear c38b1); (try clear c38b2); (try clear c39); (try clear c39b0); (try clear c39b1); (try clear c39b2); (try clear c40); (try clear c40b0); (try clear c40b1); (try clear c40b2); (try clear hcz11_0); (try clear hcz11_1); (try clear hcz11_10); (try clear hcz11_11); (try clear hcz11_12); (try clear hcz11_13); (try clear hcz11_14); (try clear hcz11_15); (try clear hcz11_16); (try clear hcz11_17); (try clear hcz11_18); (try clear hcz11_2); (try clear hcz11_3); (try clear hcz11_4); (try clear hcz11_5); (try clear hcz11_6); (try clear hcz11_7); (try clear hcz11_8); (try clear hcz11_9); (try clear hcz13_0); (try clear hcz13_1); (try clear hcz13_10); (try clear hcz13_11); (try clear hcz13_12); (try clear hcz13_13); (try clear hcz13_14); (try clear hcz13_15); (try clear hcz13_16); (try clear hcz13_17); (try clear hcz13_18); (try clear hcz13_2); (try clear hcz13_3); (try clear hcz13_4); (try clear hcz13_5); (try clear hcz13_6); (try clear hcz13_7); (try clear hcz13_8); (try clear hcz13_9); (try clear hcz14_0); (try clear hcz14_1); (try clear hcz14_10); (try clear hcz14_11); (try clear hcz14_12); (try clear hcz14_13); (try clear hcz14_14); (try clear hcz14_15); (try clear hcz14_16); (try clear hcz14_17); (try clear hcz14_18); (try clear hcz14_2); (try clear hcz14_3); (try clear hcz14_4); (try clear hcz14_5); (try clear hcz14_6); (try clear hcz14_7); (try clear hcz14_8); (try clear hcz14_9); (try clear hcz15_0); (try clear hcz15_1); (try clear hcz15_10); (try clear hcz15_11); (try clear hcz15_12); (try clear hcz15_13); (try clear hcz15_14); (try clear hcz15_15); (try clear hcz15_16); (try clear hcz15_17); (try clear hcz15_18); (try clear hcz15_2); (try clear hcz15_3); (try clear hcz15_4); (try clear hcz15_5); (try clear hcz15_6); (try clear hcz15_7); (try clear hcz15_8); (try clear hcz15_9); (try clear hcz16_0); (try clear hcz16_1); (try clear hcz16_10); (try clear hcz16_11); (try clear hcz16_12); (try clear hcz16_13); (try clear hcz16_14); (try clear hcz16_15); (try clear hcz16_16); (try clear hcz16_17); (try clear hcz16_18); (try clear hcz16_2); (try clear hcz16_3); (try clear hcz16_4); (try clear hcz16_5); (try clear hcz16_6); (try clear hcz16_7); (try clear hcz16_8); (try clear hcz16_9); (try clear hcz19_0); (try clear hcz19_1); (try clear hcz19_10); (try clear hcz19_11); (try clear hcz19_12); (try clear hcz19_13); (try clear hcz19_14); (try clear hcz19_15); (try clear hcz19_16); (try clear hcz19_17); (try clear hcz19_18); (try clear hcz19_2); (try clear hcz19_3); (try clear hcz19_4); (try clear hcz19_5); (try clear hcz19_6); (try clear hcz19_7); (try clear hcz19_8); (try clear hcz19_9); (try clear hcz26_0); (try clear hcz26_1); (try clear hcz26_10); (try clear hcz26_11); (try clear hcz26_12); (try clear hcz26_13); (try clear hcz26_14); (try clear hcz26_15); (try clear hcz26_16); (try clear hcz26_17); (try clear hcz26_18); (try clear hcz26_2); (try clear hcz26_3); (try clear hcz26_4); (try clear hcz26_5); (try clear hcz26_6); (try clear hcz26_7); (try clear hcz26_8); (try clear hcz26_9); (try clear hcz42_0); (try clear hcz42_1); (try clear hcz42_10); (try clear hcz42_11); (try clear hcz42_12); (try clear hcz42_13); (try clear hcz42_14); (try clear hcz42_15); (try clear hcz42_16); (try clear hcz42_17); (try clear hcz42_18); (try clear hcz42_2); (try clear hcz42_3); (try clear hcz42_4); (try clear hcz42_5); (try clear hcz42_6); (try clear hcz42_7); (try clear hcz42_8); (try clear hcz42_9); (try clear hcz44_0); (try clear hcz44_1); (try clear hcz44_10); (try clear hcz44_11); (try clear hcz44_12); (try clear hcz44_13); (try clear hcz44_14); (try clear hcz44_15); (try clear hcz44_16); (try clear hcz44_17); (try clear hcz44_18); (try clear hcz44_2); (try clear hcz44_3); (try clear hcz44_4); (try clear hcz44_5); (try clear hcz44_6); (try clear hcz44_7); (try clear hcz44_8); (try clear hcz44_9); (try clear hx263_0); (try clear p263); (try clear q263)
         obtain ⟨kq, x79_29, rfl, HA, HJ29, BK254, HB⟩ := hcut
         cases kq with
         | zero => exact absurd HA.out (by simp [impl_InstrOK.j2])
         | succ kj29 =>
          have H := HA.out
          clear HA
          simp only [impl_InstrOK.j2] at H
          by_cases c46 : x79_29 = true
          ·subst c46
           have H1 : (some false) = some r := by rw [if_pos rfl] at H; exact H
           clear H
           have H := H1
           clear H1
           exact impl_InstrOK.e0
          ·replace c46 := Bool.eq_false_iff.mpr c46
           subst c46
           have H1 : ((impl_OperandOK.f a0_4 a0_5 a0_6 a0_7 a0_8 a0_9 a0_10 (mx 1 a0_1)).bind fun t268 => (if t268 = true then ((impl_srcSize.f a0_0 a0_1 a0_2 a0_3 a0_4 a0_5 a0_6 a0_7 a0_8 a0_9 a0_10 a0_11 a0_12 a0_13 a0_14 a0_15 a0_16 a0_17 a0_18).bind fun t269 => ((impl_OperandOK.f a0_11 a0_12 a0_13 a0_14 a0_15 a0_16 a0_17 t269).bind fun t270 => (impl_InstrOK.j3 kj29 (!t270) a0_0 a0_1 a0_2 a0_3 a0_4 a0_5 a0_6 a0_7 a0_8 a0_9 a0_10 a0_11 a0_12 a0_13 a0_14 a0_15 a0_16 a0_17 a0_18))) else (impl_InstrOK.j3 kj29 true a0_0 a0_1 a0_2 a0_3 a0_4 a0_5 a0_6 a0_7 a0_8 a0_9 a0_10 a0_11 a0_12 a0_13 a0_14 a0_15 a0_16 a0_17 a0_18))) = some r := by rw [if_neg (show ¬ (false = true) by decide)] at H; exact H
           clear H
           have H := H1
           clear H1
           have HC47 := Aside0.mk H
           clear H
           go_upto_region 13 with (first | ((with_reducible refine gate_dst (N := 66) rfl ?_); (try refine gate_guard (by rfl) ?_); refine ldw 30 (.tmp 1) rfl rfl rfl by2 Try.underlying30 rfl by4 ?_) | ((with_reducible refine gate_dst (N := 90) rfl ?_); (try refine gate_guard (by rfl) ?_); refine ldw 30 (.tmp 1) rfl rfl rfl by2 Try.underlying30 rfl by4 ?_) | ((with_reducible refine gate_dst (N := 101) rfl ?_); (try refine gate_guard (by rfl) ?_); refine ldw 30 (.tmp 1) rfl rfl rfl by2 Try.underlying30 rfl by4 ?_) | ((with_reducible refine gate_dst (N := 131) rfl ?_); (try refine gate_guard (by rfl) ?_); refine ldw 30 (.tmp 1) rfl rfl rfl by2 Try.underlying30 rfl by4 ?_))
           go_cut [94] (fun v94 wc => ∃ (kq : Nat) (x94_46 : Bool), v94 = .bool x94_46 ∧ Aside0 (impl_InstrOK.j3 kq x94_46 a0_0 a0_1 a0_2 a0_3 a0_4 a0_5 a0_6 a0_7 a0_8 a0_9 a0_10 a0_11 a0_12 a0_13 a0_14 a0_15 a0_16 a0_17 a0_18 = some r) ∧ Aside0 (kq ≤ kj29) ∧ Aside0 (wc.heap[gb254]? = some (.cells #[.int .i64 a0_0, .int .i64 a0_1, .int .i64 a0_2, .int .i64 a0_3, .int .i64 a0_4, .int .i64 a0_5, .int .i64 a0_6, .int .i64 a0_7, .int .i64 a0_8, .int .i64 a0_9, .int .i64 a0_10, .int .i64 a0_11, .int .i64 a0_12, .int .i64 a0_13, .int .i64 a0_14, .int .i64 a0_15, .int .i64 a0_16, .int .i64 a0_17, .int .i64 a0_18] 30 (0, 0))) ∧ Aside0 (Below w.heap.size w wc))
           case first =>
            have H := HC47.out
            clear HC47
            obtain ⟨ji48, hji48⟩ : ∃ j_ : Int, (mx 1 a0_1) = j_ := ⟨_, rfl⟩
            replace H : ((impl_OperandOK.f a0_4 a0_5 a0_6 a0_7 a0_8 a0_9 a0_10 (ji48)).bind fun t268 => (if t268 = true then ((impl_srcSize.f a0_0 a0_1 a0_2 a0_3 a0_4 a0_5 a0_6 a0_7 a0_8 a0_9 a0_10 a0_11 a0_12 a0_13 a0_14 a0_15 a0_16 a0_17 a0_18).bind fun t269 => ((impl_OperandOK.f a0_11 a0_12 a0_13 a0_14 a0_15 a0_16 a0_17 t269).bind fun t270 => (impl_InstrOK.j3 kj29 (!t270) a0_0 a0_1 a0_2 a0_3 a0_4 a0_5 a0_6 a0_7 a0_8 a0_9 a0_10 a0_11 a0_12 a0_13 a0_14 a0_15 a0_16 a0_17 a0_18))) else (impl_InstrOK.j3 kj29 true a0_0 a0_1 a0_2 a0_3 a0_4 a0_5 a0_6 a0_7 a0_8 a0_9 a0_10 a0_11 a0_12 a0_13 a0_14 a0_15 a0_16 a0_17 a0_18))) = some r := by first | (rw [hji48] at H; exact H) | (simp only [hji48] at H ⊢; exact H)
            have hji48_ : (if 1 < a0_1 then a0_1 else 1) = ji48 := hji48
            replace H := Option.bind_eq_some_iff.mp H
            obtain ⟨t268, A490, H⟩ := H
            replace H : (if t268 = true then ((impl_srcSize.f a0_0 a0_1 a0_2 a0_3 a0_4 a0_5 a0_6 a0_7 a0_8 a0_9 a0_10 a0_11 a0_12 a0_13 a0_14 a0_15 a0_16 a0_17 a0_18).bind fun t269 => ((impl_OperandOK.f a0_11 a0_12 a0_13 a0_14 a0_15 a0_16 a0_17 t269).bind fun t270 => (impl_InstrOK.j3 kj29 (!t270) a0_0 a0_1 a0_2 a0_3 a0_4 a0_5 a0_6 a0_7 a0_8 a0_9 a0_10 a0_11 a0_12 a0_13 a0_14 a0_15 a0_16 a0_17 a0_18))) else (impl_InstrOK.j3 kj29 true a0_0 a0_1 a0_2 a0_3 a0_4 a0_5 a0_6 a0_7 a0_8 a0_9 a0_10 a0_11 a0_12 a0_13 a0_14 a0_15 a0_16 a0_17 a0_18)) = some r := H
            have A49 := Aside0.mk A490
            clear A490
            by_cases c50 : t268 = true
            ·subst c50
             have H1 : ((impl_srcSize.f a0_0 a0_1 a0_2 a0_3 a0_4 a0_5 a0_6 a0_7 a0_8 a0_9 a0_10 a0_11 a0_12 a0_13 a0_14 a0_15 a0_16 a0_17 a0_18).bind fun t269 => ((impl_OperandOK.f a0_11 a0_12 a0_13 a0_14 a0_15 a0_16 a0_17 t269).bind fun t270 => (impl_InstrOK.j3 kj29 (!t270) a0_0 a0_1 a0_2 a0_3 a0_4 a0_5 a0_6 a0_7 a0_8 a0_9 a0_10 a0_11 a0_12 a0_13 a0_14 a0_15 a0_16 a0_17 a0_18))) = some r := by rw [if_pos rfl] at H; exact H
             clear H
             have H := H1
             clear H1
             replace H := Option.bind_eq_some_iff.mp H
             obtain ⟨t269, A510, H⟩ := H
             replace H : ((impl_OperandOK.f a0_11 a0_12 a0_13 a0_14 a0_15 a0_16 a0_17 t269).bind fun t270 => (impl_InstrOK.j3 kj29 (!t270) a0_0 a0_1 a0_2 a0_3 a0_4 a0_5 a0_6 a0_7 a0_8 a0_9 a0_10 a0_11 a0_12 a0_13 a0_14 a0_15 a0_16 a0_17 a0_18)) = some r := H
             have A51 := Aside0.mk A510
             clear A510
             replace H := Option.bind_eq_some_iff.mp H
             obtain ⟨t270, A520, H⟩ := H
             replace H : (impl_InstrOK.j3 kj29 (!t270) a0_0 a0_1 a0_2 a0_3 a0_4 a0_5 a0_6 a0_7 a0_8 a0_9 a0_10 a0_11 a0_12 a0_13 a0_14 a0_15 a0_16 a0_17 a0_18) = some r := H
             have A52 := Aside0.mk A520
             clear A520
             have H' := Aside0.mk H
             clear H
             try go_wp2
             have n0_ := Aside0.mk (blk_drew BK254.out)
             have n1_ := Aside0.mk (below_drew1 HB.out)
             clear BK254
             clear HB
             have BK254 := n0_
             have HB := n1_
             clear n0_ n1_
             refine start_ (n := 15) (S := fun w' => w'.cell? ⟨gb254, 0, none⟩ = some (.int .i64 a0_0) ∧ w'.cell? ⟨gb254, 1, none⟩ = some (.int .i64 a0_1) ∧ w'.cell? ⟨gb254, 2, none⟩ = some (.int .i64 a0_2) ∧ w'.cell? ⟨gb254, 3, none⟩ = some (.int .i64 a0_3) ∧ w'.cell? ⟨gb254, 4, none⟩ = some (.int .i64 a0_4) ∧ w'.cell? ⟨gb254, 5, none⟩ = some (.int .i64 a0_5) ∧ w'.cell? ⟨gb254, 6, none⟩ = some (.int .i64 a0_6) ∧ w'.cell? ⟨gb254, 7, none⟩ = some (.int .i64 a0_7) ∧ w'.cell? ⟨gb254, 8, none⟩ = some (.int .i64 a0_8) ∧ w'.cell? ⟨gb254, 9, none⟩ = some (.int .i64 a0_9) ∧ w'.cell? ⟨gb254, 10, none⟩ = some (.int .i64 a0_10) ∧ w'.cell? ⟨gb254, 11, none⟩ = some (.int .i64 a0_11) ∧ w'.cell? ⟨gb254, 12, none⟩ = some (.int .i64 a0_12) ∧ w'.cell? ⟨gb254, 13, none⟩ = some (.int .i64 a0_13) ∧ w'.cell? ⟨gb254, 14, none⟩ = some (.int .i64 a0_14) ∧ w'.cell? ⟨gb254, 15, none⟩ = some (.int .i64 a0_15) ∧ w'.cell? ⟨gb254, 16, none⟩ = some (.int .i64 a0_16) ∧ w'.cell? ⟨gb254, 17, none⟩ = some (.int .i64 a0_17) ∧ w'.cell? ⟨gb254, 18, none⟩ = some (.int .i64 a0_18)) (ds := []) #[false, false, false, false, false, false, false, false, false, false, false, false, false, false, false] by4 rfl rfl ⟨(blk_cell BK254.out 0).trans rfl, (blk_cell BK254.out 1).trans rfl, (blk_cell BK254.out 2).trans rfl, (blk_cell BK254.out 3).trans rfl, (blk_cell BK254.out 4).trans rfl, (blk_cell BK254.out 5).trans rfl, (blk_cell BK254.out 6).trans rfl, (blk_cell BK254.out 7).trans rfl, (blk_cell BK254.out 8).trans rfl, (blk_cell BK254.out 9).trans rfl, (blk_cell BK254.out 10).trans rfl, (blk_cell BK254.out 11).trans rfl, (blk_cell BK254.out 12).trans rfl, (blk_cell BK254.out 13).trans rfl, (blk_cell BK254.out 14).trans rfl, (blk_cell BK254.out 15).trans rfl, (blk_cell BK254.out 16).trans rfl, (blk_cell BK254.out 17).trans rfl, (blk_cell BK254.out 18).trans rfl⟩ (fun hHeld => ?_); refine with_tabW impl_InstrOK.tab13 impl_InstrOK.bits13 (fun HT_ HW_ => ?_)
             generalize wc.drew = w53 at BK254 HB hHeld ⊢
             refine pure_ (i := 0) (N := some 80) (v := ?_) (a' := ?_) #[true, false, false, false, false, false, false, false, false, false, false, false, false, false, false] rfl rfl (any_of HT_.out by4) (fun _ _ _ h => h) (Or.inl ⟨by rfl, ?_⟩) ?_ ?_
             rotate_left
             ·intro w'
              go_simp
              with_reducible rfl
             rotate_left
             ·simp only [Act.put, List.setIfInBounds_toArray, List.set_cons_zero, List.set_cons_succ, i64_w, i32_w]
              rfl
             refine pure_ (i := 2) (N := some 82) (v := ?_) (a' := ?_) #[true, false, true, false, false, false, false, false, false, false, false, false, false, false, false] rfl rfl (any_of HT_.out by4) (fun _ _ _ h => h) (Or.inl ⟨by rfl, ?_⟩) ?_ ?_
             rotate_left
             ·intro w'
              go_simp
              with_reducible rfl
             rotate_left
             ·simp only [Act.put, List.setIfInBounds_toArray, List.set_cons_zero, List.set_cons_succ, i64_w, i32_w]
              rfl
             refine take_ (i := 1) (N := some 81) (v := ?_) (a' := ?_) #[true, true, true, false, false, false, false, false, false, false, false, false, false, false, false] rfl rfl (take_ofW HT_.out HW_.out by4) (fun _ _ _ h => h) (Or.inl ⟨by rfl, ?_⟩) hHeld ?_ ?_
             rotate_left
             ·rintro w' ⟨s0, s1, s2, s3, s4, s5, s6, s7, s8, s9, s10, s11, s12, s13, s14, s15, s16, s17, s18⟩
              go_simp
              with_reducible rfl
             rotate_left
             ·simp only [Act.put, List.setIfInBounds_toArray, List.set_cons_zero, List.set_cons_succ, i64_w, i32_w]
              rfl
             refine take_ (i := 3) (N := some 83) (v := ?_) (a' := ?_) #[true, true, true, true, false, false, false, false, false, false, false, false, false, false, false] rfl rfl (take_ofW HT_.out HW_.out by4) (fun _ _ _ h => h) (Or.inl ⟨by rfl, ?_⟩) hHeld ?_ ?_
             rotate_left
             ·rintro w' ⟨s0, s1, s2, s3, s4, s5, s6, s7, s8, s9, s10, s11, s12, s13, s14, s15, s16, s17, s18⟩
              go_simp
              with_reducible rfl
             rotate_left
             ·simp only [Act.put, List.setIfInBounds_toArray, List.set_cons_zero, List.set_cons_succ, i64_w, i32_w]
              rfl
             refine pure_ (i := 4) (N := some 84) (v := ?_) (a' := ?_) #[true, true, true, true, true, false, false, false, false, false, false, false, false, false, false] rfl rfl (any_of HT_.out by4) (fun _ _ _ h => h) (Or.inl ⟨by rfl, ?_⟩) ?_ ?_
             rotate_left
             ·intro w'
              go_simp
              with_reducible rfl
             rotate_left
             ·simp only [Act.put, List.setIfInBounds_toArray, List.set_cons_zero, List.set_cons_succ, i64_w, i32_w]
              rfl
             refine one_ (i := 5) (N := some 85) #[true, true, true, true, true, true, false, false, false, false, false, false, false, false, false] rfl rfl (one_of HT_.out by4) (by decide) (fun K hK => ?_)
             refine goes_ Try.func87 by4 rfl #[.agg #[.int .i64 a0_4, .int .i64 a0_5, .int .i64 a0_6, .int .i64 a0_7, .int .i64 a0_8, .int .i64 a0_9, .int .i64 a0_10], .int .i64 ji48] (by rfl) rfl rfl by94 ?_
             with_reducible refine (impl_OperandOK.calls a0_4 a0_5 a0_6 a0_7 a0_8 a0_9 a0_10 ji48 true _ A49.out).mono ?_
             rintro e w54 ⟨rfl, hb⟩
             refine ⟨_, rfl, ?_⟩
             have n0_ := Aside0.mk (blk_below by2 hb)
             have n1_ := Aside0.mk (below_step by14 hb)
             clear BK254
             clear HB
             have BK254 := n0_
             have HB := n1_
             clear n0_ n1_
             (try clear hb)
             (try clear hb2)
             (try clear hk)
             (try clear hi)
             refine hK.out _ _ ⟨(blk_cell BK254.out 0).trans rfl, (blk_cell BK254.out 1).trans rfl, (blk_cell BK254.out 2).trans rfl, (blk_cell BK254.out 3).trans rfl, (blk_cell BK254.out 4).trans rfl, (blk_cell BK254.out 5).trans rfl, (blk_cell BK254.out 6).trans rfl, (blk_cell BK254.out 7).trans rfl, (blk_cell BK254.out 8).trans rfl, (blk_cell BK254.out 9).trans rfl, (blk_cell BK254.out 10).trans rfl, (blk_cell BK254.out 11).trans rfl, (blk_cell BK254.out 12).trans rfl, (blk_cell BK254.out 13).trans rfl, (blk_cell BK254.out 14).trans rfl, (blk_cell BK254.out 15).trans rfl, (blk_cell BK254.out 16).trans rfl, (blk_cell BK254.out 17).trans rfl, (blk_cell BK254.out 18).trans rfl⟩ (fun hHeld => ?_)
             clear hK K
             refine norm_ (a' := ?_) ?_ ?_
             rotate_left
             ·show Act.put _ (some 85) _ = _
              simp only [Act.put, List.setIfInBounds_toArray, List.set_cons_zero, List.set_cons_succ, i64_w, i32_w]
              rfl
             refine pure_ (i := 6) (N := some 86) (v := ?_) (a' := ?_) #[true, true, true, true, true, true, true, false, false, false, false, false, false, false, false] rfl rfl (any_of HT_.out by4) (fun _ _ _ h => h) (Or.inl ⟨by rfl, ?_⟩) ?_ ?_
             rotate_left
             ·intro w'
              go_simp
              with_reducible rfl
             rotate_left
             ·simp only [Act.put, List.setIfInBounds_toArray, List.set_cons_zero, List.set_cons_succ, i64_w, i32_w]
              rfl
             refine pure_ (i := 7) (N := some 87) (v := ?_) (a' := ?_) #[true, true, true, true, true, true, true, true, false, false, false, false, false, false, false] rfl rfl (any_of HT_.out by4) (fun _ _ _ h => h) (Or.inl ⟨by rfl, ?_⟩) ?_ ?_
             rotate_left
             ·intro w'
              go_simp
              with_reducible rfl
             rotate_left
             ·simp only [Act.put, List.setIfInBounds_toArray, List.set_cons_zero, List.set_cons_succ, i64_w, i32_w]
              rfl
             refine pure_ (i := 8) (N := some 88) (v := ?_) (a' := ?_) #[true, true, true, true, true, true, true, true, true, false, false, false, false, false, false] rfl rfl (any_of HT_.out by4) (fun _ _ _ h => h) (Or.inl ⟨by rfl, ?_⟩) ?_ ?_
             rotate_left
             ·intro w'
              go_simp
              with_reducible rfl
             rotate_left
             ·simp only [Act.put, List.setIfInBounds_toArray, List.set_cons_zero, List.set_cons_succ, i64_w, i32_w]
              rfl
             refine take_ (i := 9) (N := some 89) (v := ?_) (a' := ?_) #[true, true, true, true, true, true, true, true, true, true, false, false, false, false, false] rfl rfl (take_ofW HT_.out HW_.out by4) (fun _ _ _ h => h) (Or.inl ⟨by rfl, ?_⟩) hHeld ?_ ?_
             rotate_left
             ·rintro w' ⟨s0, s1, s2, s3, s4, s5, s6, s7, s8, s9, s10, s11, s12, s13, s14, s15, s16, s17, s18⟩
              go_simp
              with_reducible rfl
             rotate_left
             ·simp only [Act.put, List.setIfInBounds_toArray, List.set_cons_zero, List.set_cons_succ, i64_w, i32_w]
              rfl
             refine take_ (i := 10) (N := some 90) (v := ?_) (a' := ?_) #[true, true, true, true, true, true, true, true, true, true, true, false, false, false, false] rfl rfl (take_ofW HT_.out HW_.out by4) (fun _ _ _ h => h) (Or.inl ⟨by rfl, ?_⟩) hHeld ?_ ?_
             rotate_left
             ·rintro w' ⟨s0, s1, s2, s3, s4, s5, s6, s7, s8, s9, s10, s11, s12, s13, s14, s15, s16, s17, s18⟩
              refine Eq.trans (ldx 30 (.tmp 1) ?_ ?_ (rc_cons s0 (rc_cons s1 (rc_cons s2 (rc_cons s3 (rc_cons s4 (rc_cons s5 (rc_cons s6 (rc_cons s7 (rc_cons s8 (rc_cons s9 (rc_cons s10 (rc_cons s11 (rc_cons s12 (rc_cons s13 (rc_cons s14 (rc_cons s15 (rc_cons s16 (rc_cons s17 (rc_cons s18 rc_nil))))))))))))))))))) Try.underlying30 rfl by4) ?_
              all_goals first | with_reducible rfl | rfl
             rotate_left
             ·simp only [Act.put, List.setIfInBounds_toArray, List.set_cons_zero, List.set_cons_succ, i64_w, i32_w]
              rfl
             refine one_ (i := 11) (N := some 91) #[true, true, true, true, true, true, true, true, true, true, true, true, false, false, false] rfl rfl (one_of HT_.out by4) (by decide) (fun K hK => ?_)
             refine goes_ Try.func88 by4 rfl #[.agg #[.int .i64 a0_0, .int .i64 a0_1, .int .i64 a0_2, .int .i64 a0_3, .int .i64 a0_4, .int .i64 a0_5, .int .i64 a0_6, .int .i64 a0_7, .int .i64 a0_8, .int .i64 a0_9, .int .i64 a0_10, .int .i64 a0_11, .int .i64 a0_12, .int .i64 a0_13, .int .i64 a0_14, .int .i64 a0_15, .int .i64 a0_16, .int .i64 a0_17, .int .i64 a0_18]] (by rfl) rfl rfl by1 ?_
             with_reducible refine (impl_srcSize.calls a0_0 a0_1 a0_2 a0_3 a0_4 a0_5 a0_6 a0_7 a0_8 a0_9 a0_10 a0_11 a0_12 a0_13 a0_14 a0_15 a0_16 a0_17 a0_18 t269 _ A51.out).mono ?_
             rintro e w55 ⟨rfl, hb⟩
             refine ⟨_, rfl, ?_⟩
             have n0_ := Aside0.mk (blk_below by2 hb)
             have n1_ := Aside0.mk (below_step by14 hb)
             clear BK254
             clear HB
             have BK254 := n0_
             have HB := n1_
             clear n0_ n1_
             (try clear hb)
             (try clear hb2)
             (try clear hk)
             (try clear hi)
             refine hK.out _ _ ⟨(blk_cell BK254.out 0).trans rfl, (blk_cell BK254.out 1).trans rfl, (blk_cell BK254.out 2).trans rfl, (blk_cell BK254.out 3).trans rfl, (blk_cell BK254.out 4).trans rfl, (blk_cell BK254.out 5).trans rfl, (blk_cell BK254.out 6).trans rfl, (blk_cell BK254.out 7).trans rfl, (blk_cell BK254.out 8).trans rfl, (blk_cell BK254.out 9).trans rfl, (blk_cell BK254.out 10).trans rfl, (blk_cell BK254.out 11).trans rfl, (blk_cell BK254.out 12).trans rfl, (blk_cell BK254.out 13).trans rfl, (blk_cell BK254.out 14).trans rfl, (blk_cell BK254.out 15).trans rfl, (blk_cell BK254.out 16).trans rfl, (blk_cell BK254.out 17).trans rfl, (blk_cell BK254.out 18).trans rfl⟩ (fun hHeld => ?_)
             clear hK K
             refine norm_ (a' := ?_) ?_ ?_
             rotate_left
             ·show Act.put _ (some 91) _ = _
              simp only [Act.put, List.setIfInBounds_toArray, List.set_cons_zero, List.set_cons_succ, i64_w, i32_w]
              rfl
             refine one_ (i := 12) (N := some 92) #[true, true, true, true, true, true, true, true, true, true, true, true, true, false, false] rfl rfl (one_of HT_.out by4) (by decide) (fun K hK => ?_)
             refine goes_ Try.func87 by4 rfl #[.agg #[.int .i64 a0_11, .int .i64 a0_12, .int .i64 a0_13, .int .i64 a0_14, .int .i64 a0_15, .int .i64 a0_16, .int .i64 a0_17], .int .i64 t269] (by rfl) rfl rfl by1 ?_
             with_reducible refine (impl_OperandOK.calls a0_11 a0_12 a0_13 a0_14 a0_15 a0_16 a0_17 t269 t270 _ A52.out).mono ?_
             rintro e w56 ⟨rfl, hb⟩
             refine ⟨_, rfl, ?_⟩
             have n0_ := Aside0.mk (blk_below by2 hb)
             have n1_ := Aside0.mk (below_step by14 hb)
             clear BK254
             clear HB
             have BK254 := n0_
             have HB := n1_
             clear n0_ n1_
             (try clear hb)
             (try clear hb2)
             (try clear hk)
             (try clear hi)
             refine hK.out _ _ ⟨(blk_cell BK254.out 0).trans rfl, (blk_cell BK254.out 1).trans rfl, (blk_cell BK254.out 2).trans rfl, (blk_cell BK254.out 3).trans rfl, (blk_cell BK254.out 4).trans rfl, (blk_cell BK254.out 5).trans rfl, (blk_cell BK254.out 6).trans rfl, (blk_cell BK254.out 7).trans rfl, (blk_cell BK254.out 8).trans rfl, (blk_cell BK254.out 9).trans rfl, (blk_cell BK254.out 10).trans rfl, (blk_cell BK254.out 11).trans rfl, (blk_cell BK254.out 12).trans rfl, (blk_cell BK254.out 13).trans rfl, (blk_cell BK254.out 14).trans rfl, (blk_cell BK254.out 15).trans rfl, (blk_cell BK254.out 16).trans rfl, (blk_cell BK254.out 17).trans rfl, (blk_cell BK254.out 18).trans rfl⟩ (fun hHeld => ?_)
             clear hK K
             refine norm_ (a' := ?_) ?_ ?_
             rotate_left
             ·show Act.put _ (some 92) _ = _
              simp only [Act.put, List.setIfInBounds_toArray, List.set_cons_zero, List.set_cons_succ, i64_w, i32_w]
              rfl
             refine pure_ (i := 13) (N := some 93) (v := ?_) (a' := ?_) #[true, true, true, true, true, true, true, true, true, true, true, true, true, true, false] rfl rfl (any_of HT_.out by4) (fun _ _ _ h => h) (Or.inl ⟨by rfl, ?_⟩) ?_ ?_
             rotate_left
             ·intro w'
              go_simp
              with_reducible rfl
             rotate_left
             ·simp only [Act.put, List.setIfInBounds_toArray, List.set_cons_zero, List.set_cons_succ, i64_w, i32_w]
              rfl
             refine pure_ (i := 14) (N := some 94) (v := ?_) (a' := ?_) #[true, true, true, true, true, true, true, true, true, true, true, true, true, true, true] rfl rfl (any_of HT_.out by4) (fun _ _ _ h => h) (Or.inl ⟨by rfl, ?_⟩) ?_ ?_
             rotate_left
             ·intro w'
              go_simp
              with_reducible rfl
             rotate_left
             ·simp only [Act.put, List.setIfInBounds_toArray, List.set_cons_zero, List.set_cons_succ, i64_w, i32_w]
              rfl
             refine done_ (done_of HT_.out by4) ?_
             try go_wp2
             go_meet
             case rel => exact ⟨_, (!t270), by8, H', ⟨by have := HJ1.out; have := HK2.out; have := HJ29.out; first | omega | exact Nat.le_refl _⟩, ⟨by (with_reducible repeat (first | refine blk_drewN ?_ _ | refine blk_drew ?_ | refine blk_alloc ?_ _)); exact BK254.out⟩, ⟨by repeat (first | (with_reducible first | exact HB.out | apply below_alloc | apply pw_below_drewN | apply below_drew1 | refine below_set ?_ GE254.out) | exact HB.out)⟩⟩
            ·replace c50 := Bool.eq_false_iff.mpr c50
             subst c50
             have H1 : (impl_InstrOK.j3 kj29 true a0_0 a0_1 a0_2 a0_3 a0_4 a0_5 a0_6 a0_7 a0_8 a0_9 a0_10 a0_11 a0_12 a0_13 a0_14 a0_15 a0_16 a0_17 a0_18) = some r := by rw [if_neg (show ¬ (false = true) by decide)] at H; exact H
             clear H
             have H := H1
             clear H1
             have H' := Aside0.mk H
             clear H
             try go_wp2
             have n0_ := Aside0.mk (blk_drew BK254.out)
             have n1_ := Aside0.mk (below_drew1 HB.out)
             clear BK254
             clear HB
             have BK254 := n0_
             have HB := n1_
             clear n0_ n1_
             refine start_ (n := 15) (S := fun w' => w'.cell? ⟨gb254, 0, none⟩ = some (.int .i64 a0_0) ∧ w'.cell? ⟨gb254, 1, none⟩ = some (.int .i64 a0_1) ∧ w'.cell? ⟨gb254, 2, none⟩ = some (.int .i64 a0_2) ∧ w'.cell? ⟨gb254, 3, none⟩ = some (.int .i64 a0_3) ∧ w'.cell? ⟨gb254, 4, none⟩ = some (.int .i64 a0_4) ∧ w'.cell? ⟨gb254, 5, none⟩ = some (.int .i64 a0_5) ∧ w'.cell? ⟨gb254, 6, none⟩ = some (.int .i64 a0_6) ∧ w'.cell? ⟨gb254, 7, none⟩ = some (.int .i64 a0_7) ∧ w'.cell? ⟨gb254, 8, none⟩ = some (.int .i64 a0_8) ∧ w'.cell? ⟨gb254, 9, none⟩ = some (.int .i64 a0_9) ∧ w'.cell? ⟨gb254, 10, none⟩ = some (.int .i64 a0_10) ∧ w'.cell? ⟨gb254, 11, none⟩ = some (.int .i64 a0_11) ∧ w'.cell? ⟨gb254, 12, none⟩ = some (.int .i64 a0_12) ∧ w'.cell? ⟨gb254, 13, none⟩ = some (.int .i64 a0_13) ∧ w'.cell? ⟨gb254, 14, none⟩ = some (.int .i64 a0_14) ∧ w'.cell? ⟨gb254, 15, none⟩ = some (.int .i64 a0_15) ∧ w'.cell? ⟨gb254, 16, none⟩ = some (.int .i64 a0_16) ∧ w'.cell? ⟨gb254, 17, none⟩ = some (.int .i64 a0_17) ∧ w'.cell? ⟨gb254, 18, none⟩ = some (.int .i64 a0_18)) (ds := []) #[false, false, false, false, false, false, false, false, false, false, false, false, false, false, false] by4 rfl rfl ⟨(blk_cell BK254.out 0).trans rfl, (blk_cell BK254.out 1).trans rfl, (blk_cell BK254.out 2).trans rfl, (blk_cell BK254.out 3).trans rfl, (blk_cell BK254.out 4).trans rfl, (blk_cell BK254.out 5).trans rfl, (blk_cell BK254.out 6).trans rfl, (blk_cell BK254.out 7).trans rfl, (blk_cell BK254.out 8).trans rfl, (blk_cell BK254.out 9).trans rfl, (blk_cell BK254.out 10).trans rfl, (blk_cell BK254.out 11).trans rfl, (blk_cell BK254.out 12).trans rfl, (blk_cell BK254.out 13).trans rfl, (blk_cell BK254.out 14).trans rfl, (blk_cell BK254.out 15).trans rfl, (blk_cell BK254.out 16).trans rfl, (blk_cell BK254.out 17).trans rfl, (blk_cell BK254.out 18).trans rfl⟩ (fun hHeld => ?_); refine with_tabW impl_InstrOK.tab13 impl_InstrOK.bits13 (fun HT_ HW_ => ?_)
             generalize wc.drew = w57 at BK254 HB hHeld ⊢
             refine pure_ (i := 0) (N := some 80) (v := ?_) (a' := ?_) #[true, false, false, false, false, false, false, false, false, false, false, false, false, false, false] rfl rfl (any_of HT_.out by4) (fun _ _ _ h => h) (Or.inl ⟨by rfl, ?_⟩) ?_ ?_
             rotate_left
             ·intro w'
              go_simp
              with_reducible rfl
             rotate_left
             ·simp only [Act.put, List.setIfInBounds_toArray, List.set_cons_zero, List.set_cons_succ, i64_w, i32_w]
              rfl
             refine pure_ (i := 2) (N := some 82) (v := ?_) (a' := ?_) #[true, false, true, false, false, false, false, false, false, false, false, false, false, false, false] rfl rfl (any_of HT_.out by4) (fun _ _ _ h => h) (Or.inl ⟨by rfl, ?_⟩) ?_ ?_
             rotate_left
             ·intro w'
              go_simp
              with_reducible rfl
             rotate_left
             ·simp only [Act.put, List.setIfInBounds_toArray, List.set_cons_zero, List.set_cons_succ, i64_w, i32_w]
              rfl
             refine take_ (i := 1) (N := some 81) (v := ?_) (a' := ?_) #[true, true, true, false, false, false, false, false, false, false, false, false, false, false, false] rfl rfl (take_ofW HT_.out HW_.out by4) (fun _ _ _ h => h) (Or.inl ⟨by rfl, ?_⟩) hHeld ?_ ?_
             rotate_left
             ·rintro w' ⟨s0, s1, s2, s3, s4, s5, s6, s7, s8, s9, s10, s11, s12, s13, s14, s15, s16, s17, s18⟩
              go_simp
              with_reducible rfl
             rotate_left
             ·simp only [Act.put, List.setIfInBounds_toArray, List.set_cons_zero, List.set_cons_succ, i64_w, i32_w]
              rfl
             refine take_ (i := 3) (N := some 83) (v := ?_) (a' := ?_) #[true, true, true, true, false, false, false, false, false, false, false, false, false, false, false] rfl rfl (take_ofW HT_.out HW_.out by4) (fun _ _ _ h => h) (Or.inl ⟨by rfl, ?_⟩) hHeld ?_ ?_
             rotate_left
             ·rintro w' ⟨s0, s1, s2, s3, s4, s5, s6, s7, s8, s9, s10, s11, s12, s13, s14, s15, s16, s17, s18⟩
              go_simp
              with_reducible rfl
             rotate_left
             ·simp only [Act.put, List.setIfInBounds_toArray, List.set_cons_zero, List.set_cons_succ, i64_w, i32_w]
              rfl
             refine pure_ (i := 4) (N := some 84) (v := ?_) (a' := ?_) #[true, true, true, true, true, false, false, false, false, false, false, false, false, false, false] rfl rfl (any_of HT_.out by4) (fun _ _ _ h => h) (Or.inl ⟨by rfl, ?_⟩) ?_ ?_
             rotate_left
             ·intro w'
              go_simp
              with_reducible rfl
             rotate_left
             ·simp only [Act.put, List.setIfInBounds_toArray, List.set_cons_zero, List.set_cons_succ, i64_w, i32_w]
              rfl
             refine one_ (i := 5) (N := some 85) #[true, true, true, true, true, true, false, false, false, false, false, false, false, false, false] rfl rfl (one_of HT_.out by4) (by decide) (fun K hK => ?_)
             refine goes_ Try.func87 by4 rfl #[.agg #[.int .i64 a0_4, .int .i64 a0_5, .int .i64 a0_6, .int .i64 a0_7, .int .i64 a0_8, .int .i64 a0_9, .int .i64 a0_10], .int .i64 ji48] (by rfl) rfl rfl by94 ?_
             with_reducible refine (impl_OperandOK.calls a0_4 a0_5 a0_6 a0_7 a0_8 a0_9 a0_10 ji48 false _ A49.out).mono ?_
             rintro e w58 ⟨rfl, hb⟩
             refine ⟨_, rfl, ?_⟩
             have n0_ := Aside0.mk (blk_below by2 hb)
             have n1_ := Aside0.mk (below_step by14 hb)
             clear BK254
             clear HB
             have BK254 := n0_
             have HB := n1_
             clear n0_ n1_
             (try clear hb)
             (try clear hb2)
             (try clear hk)
             (try clear hi)
             refine hK.out _ _ ⟨(blk_cell BK254.out 0).trans rfl, (blk_cell BK254.out 1).trans rfl, (blk_cell BK254.out 2).trans rfl, (blk_cell BK254.out 3).trans rfl, (blk_cell BK254.out 4).trans rfl, (blk_cell BK254.out 5).trans rfl, (blk_cell BK254.out 6).trans rfl, (blk_cell BK254.out 7).trans rfl, (blk_cell BK254.out 8).trans rfl, (blk_cell BK254.out 9).trans rfl, (blk_cell BK254.out 10).trans rfl, (blk_cell BK254.out 11).trans rfl, (blk_cell BK254.out 12).trans rfl, (blk_cell BK254.out 13).trans rfl, (blk_cell BK254.out 14).trans rfl, (blk_cell BK254.out 15).trans rfl, (blk_cell BK254.out 16).trans rfl, (blk_cell BK254.out 17).trans rfl, (blk_cell BK254.out 18).trans rfl⟩ (fun hHeld => ?_)
             clear hK K
             refine norm_ (a' := ?_) ?_ ?_
             rotate_left
             ·show Act.put _ (some 85) _ = _
              simp only [Act.put, List.setIfInBounds_toArray, List.set_cons_zero, List.set_cons_succ, i64_w, i32_w]
              rfl
             refine pure_ (i := 6) (N := some 86) (v := ?_) (a' := ?_) #[true, true, true, true, true, true, true, false, false, false, false, false, false, false, false] rfl rfl (any_of HT_.out by4) (fun _ _ _ h => h) (Or.inl ⟨by rfl, ?_⟩) ?_ ?_
             rotate_left
             ·intro w'
              go_simp
              with_reducible rfl
             rotate_left
             ·simp only [Act.put, List.setIfInBounds_toArray, List.set_cons_zero, List.set_cons_succ, i64_w, i32_w]
              rfl
             refine pure_ (i := 7) (N := some 87) (v := ?_) (a' := ?_) #[true, true, true, true, true, true, true, true, false, false, false, false, false, false, false] rfl rfl (any_of HT_.out by4) (fun _ _ _ h => h) (Or.inl ⟨by rfl, ?_⟩) ?_ ?_
             rotate_left
             ·intro w'
              go_simp
              with_reducible rfl
             rotate_left
             ·simp only [Act.put, List.setIfInBounds_toArray, List.set_cons_zero, List.set_cons_succ, i64_w, i32_w]
              rfl
             refine pure_ (i := 8) (N := some 88) (v := undef) (a' := ?_) #[true, true, true, true, true, true, true, true, true, false, false, false, false, false, false] rfl rfl (any_of HT_.out by4) (fun _ _ _ h => h) (Or.inr ⟨by rfl, rfl⟩) ?_ ?_
             rotate_left
             ·simp only [Act.put, List.setIfInBounds_toArray, List.set_cons_zero, List.set_cons_succ, i64_w, i32_w]
              rfl
             refine pure_ (i := 9) (N := some 89) (v := undef) (a' := ?_) #[true, true, true, true, true, true, true, true, true, true, false, false, false, false, false] rfl rfl (any_of HT_.out by4) (fun _ _ _ h => h) (Or.inr ⟨by rfl, rfl⟩) ?_ ?_
             rotate_left
             ·simp only [Act.put, List.setIfInBounds_toArray, List.set_cons_zero, List.set_cons_succ, i64_w, i32_w]
              rfl
             refine pure_ (i := 10) (N := some 90) (v := undef) (a' := ?_) #[true, true, true, true, true, true, true, true, true, true, true, false, false, false, false] rfl rfl (any_of HT_.out by4) (fun _ _ _ h => h) (Or.inr ⟨by rfl, rfl⟩) ?_ ?_
             rotate_left
             ·simp only [Act.put, List.setIfInBounds_toArray, List.set_cons_zero, List.set_cons_succ, i64_w, i32_w]
              rfl
             refine pure_ (i := 11) (N := some 91) (v := undef) (a' := ?_) #[true, true, true, true, true, true, true, true, true, true, true, true, false, false, false] rfl rfl (any_of HT_.out by4) (fun _ _ _ h => h) (Or.inr ⟨by rfl, rfl⟩) ?_ ?_
             rotate_left
             ·simp only [Act.put, List.setIfInBounds_toArray, List.set_cons_zero, List.set_cons_succ, i64_w, i32_w]
              rfl
             refine pure_ (i := 12) (N := some 92) (v := undef) (a' := ?_) #[true, true, true, true, true, true, true, true, true, true, true, true, true, false, false] rfl rfl (any_of HT_.out by4) (fun _ _ _ h => h) (Or.inr ⟨by rfl, rfl⟩) ?_ ?_
             rotate_left
             ·simp only [Act.put, List.setIfInBounds_toArray, List.set_cons_zero, List.set_cons_succ, i64_w, i32_w]
              rfl
             refine pure_ (i := 13) (N := some 93) (v := undef) (a' := ?_) #[true, true, true, true, true, true, true, true, true, true, true, true, true, true, false] rfl rfl (any_of HT_.out by4) (fun _ _ _ h => h) (Or.inr ⟨by rfl, rfl⟩) ?_ ?_
             rotate_left
             ·simp only [Act.put, List.setIfInBounds_toArray, List.set_cons_zero, List.set_cons_succ, i64_w, i32_w]
              rfl
             refine pure_ (i := 14) (N := some 94) (v := ?_) (a' := ?_) #[true, true, true, true, true, true, true, true, true, true, true, true, true, true, true] rfl rfl (any_of HT_.out by4) (fun _ _ _ h => h) (Or.inl ⟨by rfl, ?_⟩) ?_ ?_
             rotate_left
             ·intro w'
              go_simp
              with_reducible rfl
             rotate_left
             ·simp only [Act.put, List.setIfInBounds_toArray, List.set_cons_zero, List.set_cons_succ, i64_w, i32_w]
              rfl
             refine done_ (done_of HT_.out by4) ?_
             try go_wp2
             go_meet
             case rel => exact ⟨_, (true), by8, H', ⟨by have := HJ1.out; have := HK2.out; have := HJ29.out; first | omega | exact Nat.le_refl _⟩, ⟨by (with_reducible repeat (first | refine blk_drewN ?_ _ | refine blk_drew ?_ | refine blk_alloc ?_ _)); exact BK254.out⟩, ⟨by repeat (first | (with_reducible first | exact HB.out | apply below_alloc | apply pw_below_drewN | apply below_drew1 | refine below_set ?_ GE254.out) | exact HB.out)⟩⟩
           case rest =>
            clear HC47
            (try clear c5); (try clear c7); (try clear c9); (try clear c10); (try clear c10b0); (try clear c10b1); (try clear c17); (try clear c22); (try clear c22b0); (try clear c23); (try clear c23b0); (try clear c24); (try clear c24b0); (try clear c25); (try clear c29); (try clear c29b0); (try clear c29b1); (try clear c29b2); (try clear c34); (try clear c36); (try clear c37); (try clear c37b0); (try clear c37b1); (try clear c37b2); (try clear c38); (try clear c38b0); (try clear c38b1); (try clear c38b2); (try clear c39); (try clear c39b0); (try clear c39b1); (try clear c39b2); (try clear c40); (try clear c40b0); (try clear c40b1); (try clear c40b2); (try clear c46); (try clear c50); (try clear hcz11_0); (try clear hcz11_1); (try clear hcz11_10); (try clear hcz11_11); (try clear hcz11_12); (try clear hcz11_13); (try clear hcz11_14); (try clear hcz11_15); (try clear hcz11_16); (try clear hcz11_17); (try clear hcz11_18); (try clear hcz11_2); (try clear hcz11_3); (try clear hcz11_4); (try clear hcz11_5); (try clear hcz11_6); (try clear hcz11_7); (try clear hcz11_8); (try clear hcz11_9); (try clear hcz13_0); (try clear hcz13_1); (try clear hcz13_10); (try clear hcz13_11); (try clear hcz13_12); (try clear hcz13_13); (try clear hcz13_14); (try clear hcz13_15); (try clear hcz13_16); (try clear hcz13_17); (try clear hcz13_18); (try clear hcz13_2); (try clear hcz13_3); (try clear hcz13_4); (try clear hcz13_5); (try clear hcz13_6); (try clear hcz13_7); (try clear hcz13_8); (try clear hcz13_9); (try clear hcz14_0); (try clear hcz14_1); (try clear hcz14_10); (try clear hcz14_11); (try clear hcz14_12); (try clear hcz14_13); (try clear hcz14_14); (try clear hcz14_15); (try clear hcz14_16); (try clear hcz14_17); (try clear hcz14_18); (try clear hcz14_2); (try clear hcz14_3); (try clear hcz14_4); (try clear hcz14_5); (try clear hcz14_6); (try clear hcz14_7); (try clear hcz14_8); (try clear hcz14_9); (try clear hcz15_0); (try clear hcz15_1); (try clear hcz15_10); (try clear hcz15_11); (try clear hcz15_12); (try clear hcz15_13); (try clear hcz15_14); (try clear hcz15_15); (try clear hcz15_16); (try clear hcz15_17); (try clear hcz15_18); (try clear hcz15_2); (try clear hcz15_3); (try clear hcz15_4); (try clear hcz15_5); (try clear hcz15_6); (try clear hcz15_7); (try clear hcz15_8); (try clear hcz15_9); (try clear hcz16_0); (try clear hcz16_1); (try clear hcz16_10); (try clear hcz16_11); (try clear hcz16_12); (try clear hcz16_13); (try clear hcz16_14); (try clear hcz16_15); (try clear hcz16_16); (try clear hcz16_17); (try clear hcz16_18); (try clear hcz16_2); (try clear hcz16_3); (try clear hcz16_4); (try clear hcz16_5); (try clear hcz16_6); (try clear hcz16_7); (try clear hcz16_8); (try clear hcz16_9); (try clear hcz19_0); (try clear hcz19_1); (try clear hcz19_10); (try clear hcz19_11); (try clear hcz19_12); (try clear hcz19_13); (try clear hcz19_14); (try clear hcz19_15); (try clear hcz19_16); (try clear hcz19_17); (try clear hcz19_18); (try clear hcz19_2); (try clear hcz19_3); (try clear hcz19_4); (try clear hcz19_5); (try clear hcz19_6); (try clear hcz19_7); (try clear hcz19_8); (try clear hcz19_9); (try clear hcz26_0); (try clear hcz26_1); (try clear hcz26_10); (try clear hcz26_11); (try clear hcz26_12); (try clear hcz26_13); (try clear hcz26_14); (try clear hcz26_15); (try clear hcz26_16); (try clear hcz26_17); (try clear hcz26_18); (try clear hcz26_2); (try clear hcz26_3); (try clear hcz26_4); (try clear hcz26_5); (try clear hcz26_6); (try clear hcz26_7); (try clear hcz26_8); (try clear hcz26_9); (try clear hcz42_0); (try clear hcz42_1); (try clear hcz42_10); (try clear hcz42_11); (try clear hcz42_12); (try clear hcz42_13); (try clear hcz42_14); (try clear hcz42_15); (try clear hcz42_16); (try clear hcz42_17); (try clear hcz42_18); (try clear hcz42_2); (try clear hcz42_3); (try clear hcz42_4); (try clear hcz42_5); (try clear hcz42_6); (try clear hcz42_7); (try clear hcz42_8); (try clear hcz42_9); (try clear hcz44_0); (try clear hcz44_1); (try clear hcz44_10); (try clear hcz44_11); (try clear hcz44_12); (try clear hcz44_13); (try clear hcz44_14); (try clear hcz44_15); (try clear hcz44_16); (try clear hcz44_17); (try clear hcz44_18); (try clear hcz44_2); (try clear hcz44_3); (try clear hcz44_4); (try clear hcz44_5); (try clear hcz44_6); (try clear hcz44_7); (try clear hcz44_8); (try clear hcz44_9); (try clear hx263_0); (try clear p263); (try clear q263)
            obtain ⟨kq, x94_46, rfl, HA, HJ46, BK254, HB⟩ := hcut
            cases kq with
            | zero => exact absurd HA.out (by simp [impl_InstrOK.j3])
            | succ kj46 =>
             have H := HA.out
             clear HA
             simp only [impl_InstrOK.j3] at H
             by_cases c59 : x94_46 = true
             ·subst c59
              have H1 : (some false) = some r := by rw [if_pos rfl] at H; exact H
              clear H
              have H := H1
              clear H1
              exact impl_InstrOK.e0
             ·replace c59 := Bool.eq_false_iff.mpr c59
              subst c59
              have H1 : (if a0_11 = 3 then ((impl_isNumber.f kj46 a0_0 a0_1 a0_2 a0_3 a0_4 a0_5 a0_6 a0_7 a0_8 a0_9 a0_10 a0_11 a0_12 a0_13 a0_14 a0_15 a0_16 a0_17 a0_18).bind fun t271 => (impl_InstrOK.j4 kj46 (!t271) a0_0 a0_1 a0_2 a0_3 a0_4 a0_5 a0_6 a0_7 a0_8 a0_9 a0_10 a0_11 a0_12 a0_13 a0_14 a0_15 a0_16 a0_17 a0_18)) else (impl_InstrOK.j4 kj46 false a0_0 a0_1 a0_2 a0_3 a0_4 a0_5 a0_6 a0_7 a0_8 a0_9 a0_10 a0_11 a0_12 a0_13 a0_14 a0_15 a0_16 a0_17 a0_18)) = some r := by rw [if_neg (show ¬ (false = true) by decide)] at H; exact H
              clear H
              have H := H1
              clear H1
              have HC60 := Aside0.mk H
              clear H
              go_upto_region 15 with (first | ((with_reducible refine gate_dst (N := 66) rfl ?_); (try refine gate_guard (by rfl) ?_); refine ldw 30 (.tmp 1) rfl rfl rfl by2 Try.underlying30 rfl by4 ?_) | ((with_reducible refine gate_dst (N := 90) rfl ?_); (try refine gate_guard (by rfl) ?_); refine ldw 30 (.tmp 1) rfl rfl rfl by2 Try.underlying30 rfl by4 ?_) | ((with_reducible refine gate_dst (N := 101) rfl ?_); (try refine gate_guard (by rfl) ?_); refine ldw 30 (.tmp 1) rfl rfl rfl by2 Try.underlying30 rfl by4 ?_) | ((with_reducible refine gate_dst (N := 131) rfl ?_); (try refine gate_guard (by rfl) ?_); refine ldw 30 (.tmp 1) rfl rfl rfl by2 Try.underlying30 rfl by4 ?_))
              go_cut [95] (fun v95 wc => ∃ (kq : Nat) (x95_59 : Bool), v95 = .bool x95_59 ∧ Aside0 (impl_InstrOK.j4 kq x95_59 a0_0 a0_1 a0_2 a0_3 a0_4 a0_5 a0_6 a0_7 a0_8 a0_9 a0_10 a0_11 a0_12 a0_13 a0_14 a0_15 a0_16 a0_17 a0_18 = some r) ∧ Aside0 (kq ≤ kj46) ∧ Aside0 (wc.heap[gb254]? = some (.cells #[.int .i64 a0_0, .int .i64 a0_1, .int .i64 a0_2, .int .i64 a0_3, .int .i64 a0_4, .int .i64 a0_5, .int .i64 a0_6, .int .i64 a0_7, .int .i64 a0_8, .int .i64 a0_9, .int .i64 a0_10, .int .i64 a0_11, .int .i64 a0_12, .int .i64 a0_13, .int .i64 a0_14, .int .i64 a0_15, .int .i64 a0_16, .int .i64 a0_17, .int .i64 a0_18] 30 (0, 0))) ∧ Aside0 (Below w.heap.size w wc))
              case first =>
               have H := HC60.out
               clear HC60
               by_cases c61 : a0_11 = 3
               ·rw [if_pos c61] at H
                have c61b0 : (a0_11 == 3) = true := beq_iff_eq.mpr c61
                have c61b1 : (a0_11 != 3) = false := bne_eq_false_iff_eq.mpr c61
                clear c61
                (first | rw [c61b0] | (simp only [i64_w, i32_w]; rw [c61b0]) | rw [c61b1] | skip)
                replace H := Option.bind_eq_some_iff.mp H
                obtain ⟨t271, A620, H⟩ := H
                replace H : (impl_InstrOK.j4 kj46 (!t271) a0_0 a0_1 a0_2 a0_3 a0_4 a0_5 a0_6 a0_7 a0_8 a0_9 a0_10 a0_11 a0_12 a0_13 a0_14 a0_15 a0_16 a0_17 a0_18) = some r := H
                have A62 := Aside0.mk A620
                clear A620
                have H' := Aside0.mk H
                clear H
                obtain ⟨hcz63_0, hcz63_1, hcz63_2, hcz63_3, hcz63_4, hcz63_5, hcz63_6, hcz63_7, hcz63_8, hcz63_9, hcz63_10, hcz63_11, hcz63_12, hcz63_13, hcz63_14, hcz63_15, hcz63_16, hcz63_17, hcz63_18⟩ := cs19 BK254.out
                go_wp2_with (first | ((with_reducible refine gate_dst (N := 66) rfl ?_); (try refine gate_guard (by rfl) ?_); refine ldw 30 (.tmp 1) rfl rfl rfl by2 Try.underlying30 rfl by4 ?_) | ((with_reducible refine gate_dst (N := 90) rfl ?_); (try refine gate_guard (by rfl) ?_); refine ldw 30 (.tmp 1) rfl rfl rfl by2 Try.underlying30 rfl by4 ?_) | ((with_reducible refine gate_dst (N := 101) rfl ?_); (try refine gate_guard (by rfl) ?_); refine ldw 30 (.tmp 1) rfl rfl rfl by2 Try.underlying30 rfl by4 ?_) | ((with_reducible refine gate_dst (N := 131) rfl ?_); (try refine gate_guard (by rfl) ?_); refine ldw 30 (.tmp 1) rfl rfl rfl by2 Try.underlying30 rfl by4 ?_) | (go_at_call 89; (with_reducible refine (impl_isNumber.calls kj46 a0_0 a0_1 a0_2 a0_3 a0_4 a0_5 a0_6 a0_7 a0_8 a0_9 a0_10 a0_11 a0_12 a0_13 a0_14 a0_15 a0_16 a0_17 a0_18 t271 _ A62.out).mono ?_); rintro e w64 ⟨rfl, hb⟩; have n0_ := Aside0.mk (blk_below by2 hb); have n1_ := Aside0.mk (below_step by14 hb); clear BK254; clear HB; have BK254 := n0_; have HB := n1_; clear n0_ n1_; (try clear hb); (try clear hb2); (try clear hk); (try clear hi)))
                go_meet
                case rel => exact ⟨_, (!t271), by8, H', ⟨by have := HJ1.out; have := HK2.out; have := HJ29.out; have := HJ46.out; first | omega | exact Nat.le_refl _⟩, ⟨by (with_reducible repeat (first | refine blk_drewN ?_ _ | refine blk_drew ?_ | refine blk_alloc ?_ _)); exact BK254.out⟩, ⟨by repeat (first | (with_reducible first | exact HB.out | apply below_alloc | apply pw_below_drewN | apply below_drew1 | refine below_set ?_ GE254.out) | exact HB.out)⟩⟩
               ·rw [if_neg c61] at H
                have c61b0 : (a0_11 == 3) = false := beq_eq_false_iff_ne.mpr c61
                have c61b1 : (a0_11 != 3) = true := bne_iff_ne.mpr c61
                (first | rw [c61b0] | (simp only [i64_w, i32_w]; rw [c61b0]) | rw [c61b1] | skip)
                have H' := Aside0.mk H
                clear H
                obtain ⟨hcz65_0, hcz65_1, hcz65_2, hcz65_3, hcz65_4, hcz65_5, hcz65_6, hcz65_7, hcz65_8, hcz65_9, hcz65_10, hcz65_11, hcz65_12, hcz65_13, hcz65_14, hcz65_15, hcz65_16, hcz65_17, hcz65_18⟩ := cs19 BK254.out
                go_wp2_with (first | ((with_reducible refine gate_dst (N := 66) rfl ?_); (try refine gate_guard (by rfl) ?_); refine ldw 30 (.tmp 1) rfl rfl rfl by2 Try.underlying30 rfl by4 ?_) | ((with_reducible refine gate_dst (N := 90) rfl ?_); (try refine gate_guard (by rfl) ?_); refine ldw 30 (.tmp 1) rfl rfl rfl by2 Try.underlying30 rfl by4 ?_) | ((with_reducible refine gate_dst (N := 101) rfl ?_); (try refine gate_guard (by rfl) ?_); refine ldw 30 (.tmp 1) rfl rfl rfl by2 Try.underlying30 rfl by4 ?_) | ((with_reducible refine gate_dst (N := 131) rfl ?_); (try refine gate_guard (by rfl) ?_); refine ldw 30 (.tmp 1) rfl rfl rfl by2 Try.underlying30 rfl by4 ?_))
                go_meet
                case rel => exact ⟨_, (false), by8, H', ⟨by have := HJ1.out; have := HK2.out; have := HJ29.out; have := HJ46.out; first | omega | exact Nat.le_refl _⟩, ⟨by (with_reducible repeat (first | refine blk_drewN ?_ _ | refine blk_drew ?_ | refine blk_alloc ?_ _)); exact BK254.out⟩, ⟨by repeat (first | (with_reducible first | exact HB.out | apply below_alloc | apply pw_below_drewN | apply below_drew1 | refine below_set ?_ GE254.out) | exact HB.out)⟩⟩
              case rest =>
               clear HC60
               (try clear c5); (try clear c7); (try clear c9); (try clear c10); (try clear c10b0); (try clear c10b1); (try clear c17); (try clear c22); (try clear c22b0); (try clear c23); (try clear c23b0); (try clear c24); (try clear c24b0); (try clear c25); (try clear c29); (try clear c29b0); (try clear c29b1); (try clear c29b2); (try clear c34); (try clear c36); (try clear c37); (try clear c37b0); (try clear c37b1); (try clear c37b2); (try clear c38); (try clear c38b0); (try clear c38b1); (try clear c38b2); (try clear c39); (try clear c39b0); (try clear c39b1); (try clear c39b2); (try clear c40); (try clear c40b0); (try clear c40b1); (try clear c40b2); (try clear c46); (try clear c50); (try clear c59); (try clear c61); (try clear c61b0); (try clear c61b1); (try clear hcz11_0); (try clear hcz11_1); (try clear hcz11_10); (try clear hcz11_11); (try clear hcz11_12); (try clear hcz11_13); (try clear hcz11_14); (try clear hcz11_15); (try clear hcz11_16); (try clear hcz11_17); (try clear hcz11_18); (try clear hcz11_2); (try clear hcz11_3); (try clear hcz11_4); (try clear hcz11_5); (try clear hcz11_6); (try clear hcz11_7); (try clear hcz11_8); (try clear hcz11_9); (try clear hcz13_0); (try clear hcz13_1); (try clear hcz13_10); (try clear hcz13_11); (try clear hcz13_12); (try clear hcz13_13); (try clear hcz13_14); (try clear hcz13_15); (try clear hcz13_16); (try clear hcz13_17); (try clear hcz13_18); (try clear hcz13_2); (try clear hcz13_3); (try clear hcz13_4); (try clear hcz13_5); (try clear hcz13_6); (try clear hcz13_7); (try clear hcz13_8); (try clear hcz13_9); (try clear hcz14_0); (try clear hcz14_1); (try clear hcz14_10); (try clear hcz14_11); (try clear hcz14_12); (try clear hcz14_13); (try clear hcz14_14); (try clear hcz14_15); (try clear hcz14_16); (try clear hcz14_17); (try clear hcz14_18); (try clear hcz14_2); (try clear hcz14_3); (try clear hcz14_4); (try clear hcz14_5); (try clear hcz14_6); (try clear hcz14_7); (try clear hcz14_8); (try clear hcz14_9); (try clear hcz15_0); (try clear hcz15_1); (try clear hcz15_10); (try clear hcz15_11); (try clear hcz15_12); (try clear hcz15_13); (try clear hcz15_14); (try clear hcz15_15); (try clear hcz15_16); (try clear hcz15_17); (try clear hcz15_18); (try clear hcz15_2); (try clear hcz15_3); (try clear hcz15_4); (try clear hcz15_5); (try clear hcz15_6); (try clear hcz15_7); (try clear hcz15_8); (try clear hcz15_9); (try clear hcz16_0); (try clear hcz16_1); (try clear hcz16_10); (try clear hcz16_11); (try clear hcz16_12); (try clear hcz16_13); (try clear hcz16_14); (try clear hcz16_15); (try clear hcz16_16); (try clear hcz16_17); (try clear hcz16_18); (try clear hcz16_2); (try clear hcz16_3); (try clear hcz16_4); (try clear hcz16_5); (try clear hcz16_6); (try clear hcz16_7); (try clear hcz16_8); (try clear hcz16_9); (try clear hcz19_0); (try clear hcz19_1); (try clear hcz19_10); (try clear hcz19_11); (try clear hcz19_12); (try clear hcz19_13); (try clear hcz19_14); (try clear hcz19_15); (try clear hcz19_16); (try clear hcz19_17); (try clear hcz19_18); (try clear hcz19_2); (try clear hcz19_3); (try clear hcz19_4); (try clear hcz19_5); (try clear hcz19_6); (try clear hcz19_7); (try clear hcz19_8); (try clear hcz19_9); (try clear hcz26_0); (try clear hcz26_1); (try clear hcz26_10); (try clear hcz26_11); (try clear hcz26_12); (try clear hcz26_13); (try clear hcz26_14); (try clear hcz26_15); (try clear hcz26_16); (try clear hcz26_17); (try clear hcz26_18); (try clear hcz26_2); (try clear hcz26_3); (try clear hcz26_4); (try clear hcz26_5); (try clear hcz26_6); (try clear hcz26_7); (try clear hcz26_8); (try clear hcz26_9); (try clear hcz42_0); (try clear hcz42_1); (try clear hcz42_10); (try clear hcz42_11); (try clear hcz42_12); (try clear hcz42_13); (try clear hcz42_14); (try clear hcz42_15); (try clear hcz42_16); (try clear hcz42_17); (try clear hcz42_18); (try clear hcz42_2); (try clear hcz42_3); (try clear hcz42_4); (try clear hcz42_5); (try clear hcz42_6); (try clear hcz42_7); (try clear hcz42_8); (try clear hcz42_9); (try clear hcz44_0); (try clear hcz44_1); (try clear hcz44_10); (try clear hcz44_11); (try clear hcz44_12); (try clear hcz44_13); (try clear hcz44_14); (try clear hcz44_15); (try clear hcz44_16); (try clear hcz44_17); (try clear hcz44_18); (try clear hcz44_2); (try clear hcz44_3); (try clear hcz44_4); (try clear hcz44_5); (try clear hcz44_6); (try clear hcz44_7); (try clear hcz44_8); (try clear hcz44_9); (try clear hcz63_0); (try clear hcz63_1); (try clear hcz63_10); (try clear hcz63_11); (try clear hcz63_12); (try clear hcz63_13); (try clear hcz63_14); (try clear hcz63_15); (try clear hcz63_16); (try clear hcz63_17); (try clear hcz63_18); (try clear hcz63_2); (try clear hcz63_3); (try clear hcz63_4); (try clear hcz63_5); (try clear hcz63_6); (try clear hcz63_7); (try clear hcz63_8); (try clear hcz63_9); (try clear hcz65_0); (try clear hcz65_1); (try clear hcz65_10); (try clear hcz65_11); (try clear hcz65_12); (try clear hcz65_13); (try clear hcz65_14); (try clear hcz65_15); (try clear hcz65_16); (try clear hcz65_17); (try clear hcz65_18); (try clear hcz65_2); (try clear hcz65_3); (try clear hcz65_4); (try clear hcz65_5); (try clear hcz65_6); (try clear hcz65_7); (try clear hcz65_8); (try clear hcz65_9); (try clear hx263_0); (try clear p263); (try clear q263)
               obtain ⟨kq, x95_59, rfl, HA, HJ59, BK254, HB⟩ := hcut
               cases kq with
               | zero => exact absurd HA.out (by simp [impl_InstrOK.j4])
               | succ kj59 =>
                have H := HA.out
                clear HA
                simp only [impl_InstrOK.j4] at H
                by_cases c66 : x95_59 = true
                ·subst c66
                 have H1 : (some false) = some r := by rw [if_pos rfl] at H; exact H
                 clear H
                 have H := H1
                 clear H1
                 exact impl_InstrOK.e0
                ·replace c66 := Bool.eq_false_iff.mpr c66
                 subst c66
                 have H1 : ((impl_isShift.f a0_0).bind fun t272 => (if t272 = true then (if a0_11 = 1 then (impl_InstrOK.j5 kj59 (a0_12 != 1) a0_0 a0_1 a0_2 a0_3 a0_4 a0_5 a0_6 a0_7 a0_8 a0_9 a0_10 a0_11 a0_12 a0_13 a0_14 a0_15 a0_16 a0_17 a0_18) else (impl_InstrOK.j5 kj59 false a0_0 a0_1 a0_2 a0_3 a0_4 a0_5 a0_6 a0_7 a0_8 a0_9 a0_10 a0_11 a0_12 a0_13 a0_14 a0_15 a0_16 a0_17 a0_18)) else (impl_InstrOK.j5 kj59 false a0_0 a0_1 a0_2 a0_3 a0_4 a0_5 a0_6 a0_7 a0_8 a0_9 a0_10 a0_11 a0_12 a0_13 a0_14 a0_15 a0_16 a0_17 a0_18))) = some r := by rw [if_neg (show ¬ (false = true) by decide)] at H; exact H
                 clear H
                 have H := H1
                 clear H1
                 have HC67 := Aside0.mk H
                 clear H
                 go_upto_region 17 with (first | ((with_reducible refine gate_dst (N := 66) rfl ?_); (try refine gate_guard (by rfl) ?_); refine ldw 30 (.tmp 1) rfl rfl rfl by2 Try.underlying30 rfl by4 ?_) | ((with_reducible refine gate_dst (N := 90) rfl ?_); (try refine gate_guard (by rfl) ?_); refine ldw 30 (.tmp 1) rfl rfl rfl by2 Try.underlying30 rfl by4 ?_) | ((with_reducible refine gate_dst (N := 101) rfl ?_); (try refine gate_guard (by rfl) ?_); refine ldw 30 (.tmp 1) rfl rfl rfl by2 Try.underlying30 rfl by4 ?_) | ((with_reducible refine gate_dst (N := 131) rfl ?_); (try refine gate_guard (by rfl) ?_); refine ldw 30 (.tmp 1) rfl rfl rfl by2 Try.underlying30 rfl by4 ?_))
                 go_cut [105] (fun v105 wc => ∃ (kq : Nat) (x105_66 : Bool), v105 = .bool x105_66 ∧ Aside0 (impl_InstrOK.j5 kq x105_66 a0_0 a0_1 a0_2 a0_3 a0_4 a0_5 a0_6 a0_7 a0_8 a0_9 a0_10 a0_11 a0_12 a0_13 a0_14 a0_15 a0_16 a0_17 a0_18 = some r) ∧ Aside0 (kq ≤ kj59) ∧ Aside0 (wc.heap[gb254]? = some (.cells #[.int .i64 a0_0, .int .i64 a0_1, .int .i64 a0_2, .int .i64 a0_3, .int .i64 a0_4, .int .i64 a0_5, .int .i64 a0_6, .int .i64 a0_7, .int .i64 a0_8, .int .i64 a0_9, .int .i64 a0_10, .int .i64 a0_11, .int .i64 a0_12, .int .i64 a0_13, .int .i64 a0_14, .int .i64 a0_15, .int .i64 a0_16, .int .i64 a0_17, .int .i64 a0_18] 30 (0, 0))) ∧ Aside0 (Below w.heap.size w wc))
                 case first =>
                  have H := HC67.out
                  clear HC67
                  replace H := Option.bind_eq_some_iff.mp H
                  obtain ⟨t272, A680, H⟩ := H
                  replace H : (if t272 = true then (if a0_11 = 1 then (impl_InstrOK.j5 kj59 (a0_12 != 1) a0_0 a0_1 a0_2 a0_3 a0_4 a0_5 a0_6 a0_7 a0_8 a0_9 a0_10 a0_11 a0_12 a0_13 a0_14 a0_15 a0_16 a0_17 a0_18) else (impl_InstrOK.j5 kj59 false a0_0 a0_1 a0_2 a0_3 a0_4 a0_5 a0_6 a0_7 a0_8 a0_9 a0_10 a0_11 a0_12 a0_13 a0_14 a0_15 a0_16 a0_17 a0_18)) else (impl_InstrOK.j5 kj59 false a0_0 a0_1 a0_2 a0_3 a0_4 a0_5 a0_6 a0_7 a0_8 a0_9 a0_10 a0_11 a0_12 a0_13 a0_14 a0_15 a0_16 a0_17 a0_18)) = some r := H
                  have A68 := Aside0.mk A680
                  clear A680
                  by_cases c69 : t272 = true
                  ·subst c69
                   have H1 : (if a0_11 = 1 then (impl_InstrOK.j5 kj59 (a0_12 != 1) a0_0 a0_1 a0_2 a0_3 a0_4 a0_5 a0_6 a0_7 a0_8 a0_9 a0_10 a0_11 a0_12 a0_13 a0_14 a0_15 a0_16 a0_17 a0_18) else (impl_InstrOK.j5 kj59 false a0_0 a0_1 a0_2 a0_3 a0_4 a0_5 a0_6 a0_7 a0_8 a0_9 a0_10 a0_11 a0_12 a0_13 a0_14 a0_15 a0_16 a0_17 a0_18)) = some r := by rw [if_pos rfl] at H; exact H
                   clear H
                   have H := H1
                   clear H1
                   by_cases c70 : a0_11 = 1
                   ·rw [if_pos c70] at H
                    have c70b0 : (a0_11 == 1) = true := beq_iff_eq.mpr c70
                    have c70b1 : (a0_11 != 1) = false := bne_eq_false_iff_eq.mpr c70
                    clear c70
                    (first | rw [c70b0] | (simp only [i64_w, i32_w]; rw [c70b0]) | rw [c70b1] | skip)
                    have H' := Aside0.mk H
                    clear H
                    obtain ⟨hcz71_0, hcz71_1, hcz71_2, hcz71_3, hcz71_4, hcz71_5, hcz71_6, hcz71_7, hcz71_8, hcz71_9, hcz71_10, hcz71_11, hcz71_12, hcz71_13, hcz71_14, hcz71_15, hcz71_16, hcz71_17, hcz71_18⟩ := cs19 BK254.out
                    go_wp2_with (first | ((with_reducible refine gate_dst (N := 66) rfl ?_); (try refine gate_guard (by rfl) ?_); refine ldw 30 (.tmp 1) rfl rfl rfl by2 Try.underlying30 rfl by4 ?_) | ((with_reducible refine gate_dst (N := 90) rfl ?_); (try refine gate_guard (by rfl) ?_); refine ldw 30 (.tmp 1) rfl rfl rfl by2 Try.underlying30 rfl by4 ?_) | ((with_reducible refine gate_dst (N := 101) rfl ?_); (try refine gate_guard (by rfl) ?_); refine ldw 30 (.tmp 1) rfl rfl rfl by2 Try.underlying30 rfl by4 ?_) | ((with_reducible refine gate_dst (N := 131) rfl ?_); (try refine gate_guard (by rfl) ?_); refine ldw 30 (.tmp 1) rfl rfl rfl by2 Try.underlying30 rfl by4 ?_) | ((with_reducible refine gate_callee (f := 90) rfl ?_); refine goesL_ (some 108) rfl rfl Try.func90 by4 rfl #[.int .i64 a0_0] rfl by1 ?_; (with_reducible refine (impl_isShift.calls a0_0 true _ A68.out).mono ?_); rintro e w' ⟨rfl, ⟨nd, rfl⟩⟩; refine ⟨_, rfl, ?_⟩))
                    go_meet
                    case rel => exact ⟨_, ((a0_12 != 1)), by8, H', ⟨by have := HJ1.out; have := HK2.out; have := HJ29.out; have := HJ46.out; have := HJ59.out; first | omega | exact Nat.le_refl _⟩, ⟨by (with_reducible repeat (first | refine blk_drewN ?_ _ | refine blk_drew ?_ | refine blk_alloc ?_ _)); exact BK254.out⟩, ⟨by repeat (first | (with_reducible first | exact HB.out | apply below_alloc | apply pw_below_drewN | apply below_drew1 | refine below_set ?_ GE254.out) | exact HB.out)⟩⟩
                   ·rw [if_neg c70] at H
                    have c70b0 : (a0_11 == 1) = false := beq_eq_false_iff_ne.mpr c70
                    have c70b1 : (a0_11 != 1) = true := bne_iff_ne.mpr c70
                    (first | rw [c70b0] | (simp only [i64_w, i32_w]; rw [c70b0]) | rw [c70b1] | skip)
                    have H' := Aside0.mk H
                    clear H
                    obtain ⟨hcz72_0, hcz72_1, hcz72_2, hcz72_3, hcz72_4, hcz72_5, hcz72_6, hcz72_7, hcz72_8, hcz72_9, hcz72_10, hcz72_11, hcz72_12, hcz72_13, hcz72_14, hcz72_15, hcz72_16, hcz72_17, hcz72_18⟩ := cs19 BK254.out
                    go_wp2_with (first | ((with_reducible refine gate_dst (N := 66) rfl ?_); (try refine gate_guard (by rfl) ?_); refine ldw 30 (.tmp 1) rfl rfl rfl by2 Try.underlying30 rfl by4 ?_) | ((with_reducible refine gate_dst (N := 90) rfl ?_); (try refine gate_guard (by rfl) ?_); refine ldw 30 (.tmp 1) rfl rfl rfl by2 Try.underlying30 rfl by4 ?_) | ((with_reducible refine gate_dst (N := 101) rfl ?_); (try refine gate_guard (by rfl) ?_); refine ldw 30 (.tmp 1) rfl rfl rfl by2 Try.underlying30 rfl by4 ?_) | ((with_reducible refine gate_dst (N := 131) rfl ?_); (try refine gate_guard (by rfl) ?_); refine ldw 30 (.tmp 1) rfl rfl rfl by2 Try.underlying30 rfl by4 ?_) | ((with_reducible refine gate_callee (f := 90) rfl ?_); refine goesL_ (some 108) rfl rfl Try.func90 by4 rfl #[.int .i64 a0_0] rfl by1 ?_; (with_reducible refine (impl_isShift.calls a0_0 true _ A68.out).mono ?_); rintro e w' ⟨rfl, ⟨nd, rfl⟩⟩; refine ⟨_, rfl, ?_⟩))
                    go_meet
                    case rel => exact ⟨_, (false), by8, H', ⟨by have := HJ1.out; have := HK2.out; have := HJ29.out; have := HJ46.out; have := HJ59.out; first | omega | exact Nat.le_refl _⟩, ⟨by (with_reducible repeat (first | refine blk_drewN ?_ _ | refine blk_drew ?_ | refine blk_alloc ?_ _)); exact BK254.out⟩, ⟨by repeat (first | (with_reducible first | exact HB.out | apply below_alloc | apply pw_below_drewN | apply below_drew1 | refine below_set ?_ GE254.out) | exact HB.out)⟩⟩
                  ·replace c69 := Bool.eq_false_iff.mpr c69
                   subst c69
                   have H1 : (impl_InstrOK.j5 kj59 false a0_0 a0_1 a0_2 a0_3 a0_4 a0_5 a0_6 a0_7 a0_8 a0_9 a0_10 a0_11 a0_12 a0_13 a0_14 a0_15 a0_16 a0_17 a0_18) = some r := by rw [if_neg (show ¬ (false = true) by decide)] at H; exact H
                   clear H
                   have H := H1
                   clear H1
                   have H' := Aside0.mk H
                   clear H
                   obtain ⟨hcz73_0, hcz73_1, hcz73_2, hcz73_3, hcz73_4, hcz73_5, hcz73_6, hcz73_7, hcz73_8, hcz73_9, hcz73_10, hcz73_11, hcz73_12, hcz73_13, hcz73_14, hcz73_15, hcz73_16, hcz73_17, hcz73_18⟩ := cs19 BK254.out
                   go_wp2_with (first | ((with_reducible refine gate_dst (N := 66) rfl ?_); (try refine gate_guard (by rfl) ?_); refine ldw 30 (.tmp 1) rfl rfl rfl by2 Try.underlying30 rfl by4 ?_) | ((with_reducible refine gate_dst (N := 90) rfl ?_); (try refine gate_guard (by rfl) ?_); refine ldw 30 (.tmp 1) rfl rfl rfl by2 Try.underlying30 rfl by4 ?_) | ((with_reducible refine gate_dst (N := 101) rfl ?_); (try refine gate_guard (by rfl) ?_); refine ldw 30 (.tmp 1) rfl rfl rfl by2 Try.underlying30 rfl by4 ?_) | ((with_reducible refine gate_dst (N := 131) rfl ?_); (try refine gate_guard (by rfl) ?_); refine ldw 30 (.tmp 1) rfl rfl rfl by2 Try.underlying30 rfl by4 ?_) | ((with_reducible refine gate_callee (f := 90) rfl ?_); refine goesL_ (some 108) rfl rfl Try.func90 by4 rfl #[.int .i64 a0_0] rfl by1 ?_; (with_reducible refine (impl_isShift.calls a0_0 false _ A68.out).mono ?_); rintro e w' ⟨rfl, ⟨nd, rfl⟩⟩; refine ⟨_, rfl, ?_⟩))
                   go_meet
                   case rel => exact ⟨_, (false), by8, H', ⟨by have := HJ1.out; have := HK2.out; have := HJ29.out; have := HJ46.out; have := HJ59.out; first | omega | exact Nat.le_refl _⟩, ⟨by (with_reducible repeat (first | refine blk_drewN ?_ _ | refine blk_drew ?_ | refine blk_alloc ?_ _)); exact BK254.out⟩, ⟨by repeat (first | (with_reducible first | exact HB.out | apply below_alloc | apply pw_below_drewN | apply below_drew1 | refine below_set ?_ GE254.out) | exact HB.out)⟩⟩
                 case rest =>
                  clear HC67
                  (try clear c5); (try clear c7); (try clear c9); (try clear c10); (try clear c10b0); (try clear c10b1); (try clear c17); (try clear c22); (try clear c22b0); (try clear c23); (try clear c23b0); (try clear c24); (try clear c24b0); (try clear c25); (try clear c29); (try clear c29b0); (try clear c29b1); (try clear c29b2); (try clear c34); (try clear c36); (try clear c37); (try clear c37b0); (try clear c37b1); (try clear c37b2); (try clear c38); (try clear c38b0); (try clear c38b1); (try clear c38b2); (try clear c39); (try clear c39b0); (try clear c39b1); (try clear c39b2); (try clear c40); (try clear c40b0); (try clear c40b1); (try clear c40b2); (try clear c46); (try clear c50); (try clear c59); (try clear c61); (try clear c61b0); (try clear c61b1); (try clear c66); (try clear c69); (try clear c70); (try clear c70b0); (try clear c70b1); (try clear hcz11_0); (try clear hcz11_1); (try clear hcz11_10); (try clear hcz11_11); (try clear hcz11_12); (try clear hcz11_13); (try clear hcz11_14); (try clear hcz11_15); (try clear hcz11_16); (try clear hcz11_17); (try clear hcz11_18); (try clear hcz11_2); (try clear hcz11_3); (try clear hcz11_4); (try clear hcz11_5); (try clear hcz11_6); (try clear hcz11_7); (try clear hcz11_8); (try clear hcz11_9); (try clear hcz13_0); (try clear hcz13_1); (try clear hcz13_10); (try clear hcz13_11); (try clear hcz13_12); (try clear hcz13_13); (try clear hcz13_14); (try clear hcz13_15); (try clear hcz13_16); (try clear hcz13_17); (try clear hcz13_18); (try clear hcz13_2); (try clear hcz13_3); (try clear hcz13_4); (try clear hcz13_5); (try clear hcz13_6); (try clear hcz13_7); (try clear hcz13_8); (try clear hcz13_9); (try clear hcz14_0); (try clear hcz14_1); (try clear hcz14_10); (try clear hcz14_11); (try clear hcz14_12); (try clear hcz14_13); (try clear hcz14_14); (try clear hcz14_15); (try clear hcz14_16); (try clear hcz14_17); (try clear hcz14_18); (try clear hcz14_2); (try clear hcz14_3); (try clear hcz14_4); (try clear hcz14_5); (try clear hcz14_6); (try clear hcz14_7); (try clear hcz14_8); (try clear hcz14_9); (try clear hcz15_0); (try clear hcz15_1); (try clear hcz15_10); (try clear hcz15_11); (try clear hcz15_12); (try clear hcz15_13); (try clear hcz15_14); (try clear hcz15_15); (try clear hcz15_16); (try clear hcz15_17); (try clear hcz15_18); (try clear hcz15_2); (try clear hcz15_3); (try clear hcz15_4); (try clear hcz15_5); (try clear hcz15_6); (try clear hcz15_7); (try clear hcz15_8); (try clear hcz15_9); (try clear hcz16_0); (try clear hcz16_1); (try clear hcz16_10); (try clear hcz16_11); (try clear hcz16_12); (try clear hcz16_13); (try clear hcz16_14); (try clear hcz16_15); (try clear hcz16_16); (try clear hcz16_17); (try clear hcz16_18); (try clear hcz16_2); (try clear hcz16_3); (try clear hcz16_4); (try clear hcz16_5); (try clear hcz16_6); (try clear hcz16_7); (try clear hcz16_8); (try clear hcz16_9); (try clear hcz19_0); (try clear hcz19_1); (try clear hcz19_10); (try clear hcz19_11); (try clear hcz19_12); (try clear hcz19_13); (try clear hcz19_14); (try clear hcz19_15); (try clear hcz19_16); (try clear hcz19_17); (try clear hcz19_18); (try clear hcz19_2); (try clear hcz19_3); (try clear hcz19_4); (try clear hcz19_5); (try clear hcz19_6); (try clear hcz19_7); (try clear hcz19_8); (try clear hcz19_9); (try clear hcz26_0); (try clear hcz26_1); (try clear hcz26_10); (try clear hcz26_11); (try clear hcz26_12); (try clear hcz26_13); (try clear hcz26_14); (try clear hcz26_15); (try clear hcz26_16); (try clear hcz26_17); (try clear hcz26_18); (try clear hcz26_2); (try clear hcz26_3); (try clear hcz26_4); (try clear hcz26_5); (try clear hcz26_6); (try clear hcz26_7); (try clear hcz26_8); (try clear hcz26_9); (try clear hcz42_0); (try clear hcz42_1); (try clear hcz42_10); (try clear hcz42_11); (try clear hcz42_12); (try clear hcz42_13); (try clear hcz42_14); (try clear hcz42_15); (try clear hcz42_16); (try clear hcz42_17); (try clear hcz42_18); (try clear hcz42_2); (try clear hcz42_3); (try clear hcz42_4); (try clear hcz42_5); (try clear hcz42_6); (try clear hcz42_7); (try clear hcz42_8); (try clear hcz42_9); (try clear hcz44_0); (try clear hcz44_1); (try clear hcz44_10); (try clear hcz44_11); (try clear hcz44_12); (try clear hcz44_13); (try clear hcz44_14); (try clear hcz44_15); (try clear hcz44_16); (try clear hcz44_17); (try clear hcz44_18); (try clear hcz44_2); (try clear hcz44_3); (try clear hcz44_4); (try clear hcz44_5); (try clear hcz44_6); (try clear hcz44_7); (try clear hcz44_8); (try clear hcz44_9); (try clear hcz63_0); (try clear hcz63_1); (try clear hcz63_10); (try clear hcz63_11); (try clear hcz63_12); (try clear hcz63_13); (try clear hcz63_14); (try clear hcz63_15); (try clear hcz63_16); (try clear hcz63_17); (try clear hcz63_18); (try clear hcz63_2); (try clear hcz63_3); (try clear hcz63_4); (try clear hcz63_5); (try clear hcz63_6); (try clear hcz63_7); (try clear hcz63_8); (try clear hcz63_9); (try clear hcz65_0); (try clear hcz65_1); (try clear hcz65_10); (try clear hcz65_11); (try clear hcz65_12); (try clear hcz65_13); (try clear hcz65_14); (try clear hcz65_15); (try clear hcz65_16); (try clear hcz65_17); (try clear hcz65_18); (try clear hcz65_2); (try clear hcz65_3); (try clear hcz65_4); (try clear hcz65_5); (try clear hcz65_6); (try clear hcz65_7); (try clear hcz65_8); (try clear hcz65_9); (try clear hcz71_0); (try clear hcz71_1); (try clear hcz71_10); (try clear hcz71_11); (try clear hcz71_12); (try clear hcz71_13); (try clear hcz71_14); (try clear hcz71_15); (try clear hcz71_16); (try clear hcz71_17); (try clear hcz71_18); (try clear hcz71_2); (try clear hcz71_3); (try clear hcz71_4); (try clear hcz71_5); (try clear hcz71_6); (try clear hcz71_7); (try clear hcz71_8); (try clear hcz71_9); (try clear hcz72_0); (try clear hcz72_1); (try clear hcz72_10); (try clear hcz72_11); (try clear hcz72_12); (try clear hcz72_13); (try clear hcz72_14); (try clear hcz72_15); (try clear hcz72_16); (try clear hcz72_17); (try clear hcz72_18); (try clear hcz72_2); (try clear hcz72_3); (try clear hcz72_4); (try clear hcz72_5); (try clear hcz72_6); (try clear hcz72_7); (try clear hcz72_8); (try clear hcz72_9); (try clear hcz73_0); (try clear hcz73_1); (try clear hcz73_10); (try clear hcz73_11); (try clear hcz73_12); (try clear hcz73_13); (try clear hcz73_14); (try clear hcz73_15); (try clear hcz73_16); (try clear hcz73_17); (try clear hcz73_18); (try clear hcz73_2); (try clear hcz73_3); (try clear hcz73_4); (try clear hcz73_5); (try clear hcz73_6); (try clear hcz73_7); (try clear hcz73_8); (try clear hcz73_9); (try clear hx263_0); (try clear p263); (try clear q263)
                  obtain ⟨kq, x105_66, rfl, HA, HJ66, BK254, HB⟩ := hcut
                  cases kq with
                  | zero => exact absurd HA.out (by simp [impl_InstrOK.j5])
                  | succ kj66 =>
                   have H := HA.out
                   clear HA
                   simp only [impl_InstrOK.j5] at H
                   by_cases c74 : x105_66 = true
                   ·subst c74
                    have H1 : (some false) = some r := by rw [if_pos rfl] at H; exact H
                    clear H
                    have H := H1
                    clear H1
                    exact impl_InstrOK.e0
                   ·replace c74 := Bool.eq_false_iff.mpr c74
                    subst c74
                    have H1 : ((impl_hasHigh.f a0_4 a0_5 a0_6 a0_7 a0_8 a0_9 a0_10).bind fun t273 => (if t273 = true then ((impl_needsRex.f kj66 a0_0 a0_1 a0_2 a0_3 a0_4 a0_5 a0_6 a0_7 a0_8 a0_9 a0_10 a0_11 a0_12 a0_13 a0_14 a0_15 a0_16 a0_17 a0_18).bind fun t274 => (some (!t274))) else ((impl_hasHigh.f a0_11 a0_12 a0_13 a0_14 a0_15 a0_16 a0_17).bind fun t275 => (if t275 = true then ((impl_needsRex.f kj66 a0_0 a0_1 a0_2 a0_3 a0_4 a0_5 a0_6 a0_7 a0_8 a0_9 a0_10 a0_11 a0_12 a0_13 a0_14 a0_15 a0_16 a0_17 a0_18).bind fun t276 => (some (!t276))) else (some true))))) = some r := by rw [if_neg (show ¬ (false = true) by decide)] at H; exact H
                    clear H
                    have H := H1
                    clear H1
                    replace H := Option.bind_eq_some_iff.mp H
                    obtain ⟨t273, A750, H⟩ := H
                    replace H : (if t273 = true then ((impl_needsRex.f kj66 a0_0 a0_1 a0_2 a0_3 a0_4 a0_5 a0_6 a0_7 a0_8 a0_9 a0_10 a0_11 a0_12 a0_13 a0_14 a0_15 a0_16 a0_17 a0_18).bind fun t274 => (some (!t274))) else ((impl_hasHigh.f a0_11 a0_12 a0_13 a0_14 a0_15 a0_16 a0_17).bind fun t275 => (if t275 = true then ((impl_needsRex.f kj66 a0_0 a0_1 a0_2 a0_3 a0_4 a0_5 a0_6 a0_7 a0_8 a0_9 a0_10 a0_11 a0_12 a0_13 a0_14 a0_15 a0_16 a0_17 a0_18).bind fun t276 => (some (!t276))) else (some true)))) = some r := H
                    have A75 := Aside0.mk A750
                    clear A750
                    by_cases c76 : t273 = true
                    ·subst c76
                     have H1 : ((impl_needsRex.f kj66 a0_0 a0_1 a0_2 a0_3 a0_4 a0_5 a0_6 a0_7 a0_8 a0_9 a0_10 a0_11 a0_12 a0_13 a0_14 a0_15 a0_16 a0_17 a0_18).bind fun t274 => (some (!t274))) = some r := by rw [if_pos rfl] at H; exact H
                     clear H
                     have H := H1
                     clear H1
                     replace H := Option.bind_eq_some_iff.mp H
                     obtain ⟨t274, A770, H⟩ := H
                     replace H : (some (!t274)) = some r := H
                     have A77 := Aside0.mk A770
                     clear A770
                     obtain rfl := Option.some.inj H
                     obtain ⟨hcz78_0, hcz78_1, hcz78_2, hcz78_3, hcz78_4, hcz78_5, hcz78_6, hcz78_7, hcz78_8, hcz78_9, hcz78_10, hcz78_11, hcz78_12, hcz78_13, hcz78_14, hcz78_15, hcz78_16, hcz78_17, hcz78_18⟩ := cs19 BK254.out
                     go_wp2_with (first | ((with_reducible refine gate_dst (N := 66) rfl ?_); (try refine gate_guard (by rfl) ?_); refine ldw 30 (.tmp 1) rfl rfl rfl by2 Try.underlying30 rfl by4 ?_) | ((with_reducible refine gate_dst (N := 90) rfl ?_); (try refine gate_guard (by rfl) ?_); refine ldw 30 (.tmp 1) rfl rfl rfl by2 Try.underlying30 rfl by4 ?_) | ((with_reducible refine gate_dst (N := 101) rfl ?_); (try refine gate_guard (by rfl) ?_); refine ldw 30 (.tmp 1) rfl rfl rfl by2 Try.underlying30 rfl by4 ?_) | ((with_reducible refine gate_dst (N := 131) rfl ?_); (try refine gate_guard (by rfl) ?_); refine ldw 30 (.tmp 1) rfl rfl rfl by2 Try.underlying30 rfl by4 ?_) | ((with_reducible refine gate_callee (f := 91) rfl ?_); refine goesL_ (some 123) rfl rfl Try.func91 by4 rfl _ rfl by1 (Calls.mono (impl_hasHigh.calls _ _ _ _ _ _ _ _ _ A75.out) ?_); rintro e w79 ⟨rfl, hb⟩; refine ⟨_, rfl, ?_⟩; have n0_ := Aside0.mk (blk_below by2 hb); have n1_ := Aside0.mk (below_step by14 hb); clear BK254; clear HB; have BK254 := n0_; have HB := n1_; clear n0_ n1_; (try clear hb); (try clear hb2); (try clear hk); (try clear hi); obtain ⟨hcz80_0, hcz80_1, hcz80_2, hcz80_3, hcz80_4, hcz80_5, hcz80_6, hcz80_7, hcz80_8, hcz80_9, hcz80_10, hcz80_11, hcz80_12, hcz80_13, hcz80_14, hcz80_15, hcz80_16, hcz80_17, hcz80_18⟩ := cs19 BK254.out) | (go_at_call 92; (with_reducible refine (impl_needsRex.calls kj66 a0_0 a0_1 a0_2 a0_3 a0_4 a0_5 a0_6 a0_7 a0_8 a0_9 a0_10 a0_11 a0_12 a0_13 a0_14 a0_15 a0_16 a0_17 a0_18 t274 _ A77.out).mono ?_); rintro e w81 ⟨rfl, hb⟩; have n0_ := Aside0.mk (blk_below by2 hb); have n1_ := Aside0.mk (below_step by14 hb); clear BK254; clear HB; have BK254 := n0_; have HB := n1_; clear n0_ n1_; (try clear hb); (try clear hb2); (try clear hk); (try clear hi)))
                     go_ret
                     exact ⟨by first | rfl | (simp [errW_none, errW_some] <;> rfl) | (simp [*, errW_none, errW_some] <;> rfl), by repeat (first | (with_reducible first | exact HB.out | apply below_alloc | apply pw_below_drewN | apply below_drew1 | refine below_set ?_ GE254.out) | exact HB.out)⟩
                    ·replace c76 := Bool.eq_false_iff.mpr c76
                     subst c76
                     have H1 : ((impl_hasHigh.f a0_11 a0_12 a0_13 a0_14 a0_15 a0_16 a0_17).bind fun t275 => (if t275 = true then ((impl_needsRex.f kj66 a0_0 a0_1 a0_2 a0_3 a0_4 a0_5 a0_6 a0_7 a0_8 a0_9 a0_10 a0_11 a0_12 a0_13 a0_14 a0_15 a0_16 a0_17 a0_18).bind fun t276 => (some (!t276))) else (some true))) = some r := by rw [if_neg (show ¬ (false = true) by decide)] at H; exact H
                     clear H
                     have H := H1
                     clear H1
                     replace H := Option.bind_eq_some_iff.mp H
                     obtain ⟨t275, A820, H⟩ := H
                     replace H : (if t275 = true then ((impl_needsRex.f kj66 a0_0 a0_1 a0_2 a0_3 a0_4 a0_5 a0_6 a0_7 a0_8 a0_9 a0_10 a0_11 a0_12 a0_13 a0_14 a0_15 a0_16 a0_17 a0_18).bind fun t276 => (some (!t276))) else (some true)) = some r := H
                     have A82 := Aside0.mk A820
                     clear A820
                     by_cases c83 : t275 = true
                     ·subst c83
                      have H1 : ((impl_needsRex.f kj66 a0_0 a0_1 a0_2 a0_3 a0_4 a0_5 a0_6 a0_7 a0_8 a0_9 a0_10 a0_11 a0_12 a0_13 a0_14 a0_15 a0_16 a0_17 a0_18).bind fun t276 => (some (!t276))) = some r := by rw [if_pos rfl] at H; exact H
                      clear H
                      have H := H1
                      clear H1
                      replace H := Option.bind_eq_some_iff.mp H
                      obtain ⟨t276, A840, H⟩ := H
                      replace H : (some (!t276)) = some r := H
                      have A84 := Aside0.mk A840
                      clear A840
                      obtain rfl := Option.some.inj H
                      obtain ⟨hcz85_0, hcz85_1, hcz85_2, hcz85_3, hcz85_4, hcz85_5, hcz85_6, hcz85_7, hcz85_8, hcz85_9, hcz85_10, hcz85_11, hcz85_12, hcz85_13, hcz85_14, hcz85_15, hcz85_16, hcz85_17, hcz85_18⟩ := cs19 BK254.out
                      go_wp2_with (first | ((with_reducible refine gate_dst (N := 66) rfl ?_); (try refine gate_guard (by rfl) ?_); refine ldw 30 (.tmp 1) rfl rfl rfl by2 Try.underlying30 rfl by4 ?_) | ((with_reducible refine gate_dst (N := 90) rfl ?_); (try refine gate_guard (by rfl) ?_); refine ldw 30 (.tmp 1) rfl rfl rfl by2 Try.underlying30 rfl by4 ?_) | ((with_reducible refine gate_dst (N := 101) rfl ?_); (try refine gate_guard (by rfl) ?_); refine ldw 30 (.tmp 1) rfl rfl rfl by2 Try.underlying30 rfl by4 ?_) | ((with_reducible refine gate_dst (N := 131) rfl ?_); (try refine gate_guard (by rfl) ?_); refine ldw 30 (.tmp 1) rfl rfl rfl by2 Try.underlying30 rfl by4 ?_) | ((with_reducible refine gate_callee (f := 91) rfl ?_); refine goesL_ (some 123) rfl rfl Try.func91 by4 rfl _ rfl by1 (Calls.mono (impl_hasHigh.calls _ _ _ _ _ _ _ _ _ A75.out) ?_); rintro e w86 ⟨rfl, hb⟩; refine ⟨_, rfl, ?_⟩; have n0_ := Aside0.mk (blk_below by2 hb); have n1_ := Aside0.mk (below_step by14 hb); clear BK254; clear HB; have BK254 := n0_; have HB := n1_; clear n0_ n1_; (try clear hb); (try clear hb2); (try clear hk); (try clear hi); obtain ⟨hcz87_0, hcz87_1, hcz87_2, hcz87_3, hcz87_4, hcz87_5, hcz87_6, hcz87_7, hcz87_8, hcz87_9, hcz87_10, hcz87_11, hcz87_12, hcz87_13, hcz87_14, hcz87_15, hcz87_16, hcz87_17, hcz87_18⟩ := cs19 BK254.out) | (go_at_call 91; (with_reducible refine (impl_hasHigh.calls a0_11 a0_12 a0_13 a0_14 a0_15 a0_16 a0_17 true _ A82.out).mono ?_); rintro e w88 ⟨rfl, hb⟩; have n0_ := Aside0.mk (blk_below by2 hb); have n1_ := Aside0.mk (below_step by14 hb); clear BK254; clear HB; have BK254 := n0_; have HB := n1_; clear n0_ n1_; (try clear hb); (try clear hb2); (try clear hk); (try clear hi); obtain ⟨hcz89_0, hcz89_1, hcz89_2, hcz89_3, hcz89_4, hcz89_5, hcz89_6, hcz89_7, hcz89_8, hcz89_9, hcz89_10, hcz89_11, hcz89_12, hcz89_13, hcz89_14, hcz89_15, hcz89_16, hcz89_17, hcz89_18⟩ := cs19 BK254.out) | (go_at_call 92; (with_reducible refine (impl_needsRex.calls kj66 a0_0 a0_1 a0_2 a0_3 a0_4 a0_5 a0_6 a0_7 a0_8 a0_9 a0_10 a0_11 a0_12 a0_13 a0_14 a0_15 a0_16 a0_17 a0_18 t276 _ A84.out).mono ?_); rintro e w90 ⟨rfl, hb⟩; have n0_ := Aside0.mk (blk_below by2 hb); have n1_ := Aside0.mk (below_step by14 hb); clear BK254; clear HB; have BK254 := n0_; have HB := n1_; clear n0_ n1_; (try clear hb); (try clear hb2); (try clear hk); (try clear hi)))
                      go_ret
                      exact ⟨by first | rfl | (simp [errW_none, errW_some] <;> rfl) | (simp [*, errW_none, errW_some] <;> rfl), by repeat (first | (with_reducible first | exact HB.out | apply below_alloc | apply pw_below_drewN | apply below_drew1 | refine below_set ?_ GE254.out) | exact HB.out)⟩
                     ·replace c83 := Bool.eq_false_iff.mpr c83
                      subst c83
                      have H1 : (some true) = some r := by rw [if_neg (show ¬ (false = true) by decide)] at H; exact H
                      clear H
                      have H := H1
                      clear H1
                      obtain rfl := Option.some.inj H
                      obtain ⟨hcz91_0, hcz91_1, hcz91_2, hcz91_3, hcz91_4, hcz91_5, hcz91_6, hcz91_7, hcz91_8, hcz91_9, hcz91_10, hcz91_11, hcz91_12, hcz91_13, hcz91_14, hcz91_15, hcz91_16, hcz91_17, hcz91_18⟩ := cs19 BK254.out
                      go_wp2_with (first | ((with_reducible refine gate_dst (N := 66) rfl ?_); (try refine gate_guard (by rfl) ?_); refine ldw 30 (.tmp 1) rfl rfl rfl by2 Try.underlying30 rfl by4 ?_) | ((with_reducible refine gate_dst (N := 90) rfl ?_); (try refine gate_guard (by rfl) ?_); refine ldw 30 (.tmp 1) rfl rfl rfl by2 Try.underlying30 rfl by4 ?_) | ((with_reducible refine gate_dst (N := 101) rfl ?_); (try refine gate_guard (by rfl) ?_); refine ldw 30 (.tmp 1) rfl rfl rfl by2 Try.underlying30 rfl by4 ?_) | ((with_reducible refine gate_dst (N := 131) rfl ?_); (try refine gate_guard (by rfl) ?_); refine ldw 30 (.tmp 1) rfl rfl rfl by2 Try.underlying30 rfl by4 ?_) | ((with_reducible refine gate_callee (f := 91) rfl ?_); refine goesL_ (some 123) rfl rfl Try.func91 by4 rfl _ rfl by1 (Calls.mono (impl_hasHigh.calls _ _ _ _ _ _ _ _ _ A75.out) ?_); rintro e w92 ⟨rfl, hb⟩; refine ⟨_, rfl, ?_⟩; have n0_ := Aside0.mk (blk_below by2 hb); have n1_ := Aside0.mk (below_step by14 hb); clear BK254; clear HB; have BK254 := n0_; have HB := n1_; clear n0_ n1_; (try clear hb); (try clear hb2); (try clear hk); (try clear hi); obtain ⟨hcz93_0, hcz93_1, hcz93_2, hcz93_3, hcz93_4, hcz93_5, hcz93_6, hcz93_7, hcz93_8, hcz93_9, hcz93_10, hcz93_11, hcz93_12, hcz93_13, hcz93_14, hcz93_15, hcz93_16, hcz93_17, hcz93_18⟩ := cs19 BK254.out) | (go_at_call 91; (with_reducible refine (impl_hasHigh.calls a0_11 a0_12 a0_13 a0_14 a0_15 a0_16 a0_17 false _ A82.out).mono ?_); rintro e w94 ⟨rfl, hb⟩; have n0_ := Aside0.mk (blk_below by2 hb); have n1_ := Aside0.mk (below_step by14 hb); clear BK254; clear HB; have BK254 := n0_; have HB := n1_; clear n0_ n1_; (try clear hb); (try clear hb2); (try clear hk); (try clear hi)))
                      go_ret
                      exact ⟨by first | rfl | (simp [errW_none, errW_some] <;> rfl) | (simp [*, errW_none, errW_some] <;> rfl), by repeat (first | (with_reducible first | exact HB.out | apply below_alloc | apply pw_below_drewN | apply below_drew1 | refine below_set ?_ GE254.out) | exact HB.out)⟩
       ·rw [if_neg c29] at H
        exact absurd H (by simp)

end Go.Proofs.Ytonogadabgilfaa.PFnExactBaseAddOf
