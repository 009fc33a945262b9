/- Laid by a program of this session (patch_print.py) out of the translation: plain functions and what the calls do. No condition. -/
import Derived.Test.YtigoabhkdipdeaaPFnExactStoreAtx0
import Derived.Test.YtigoabhkdipdeaaPFnExactStoreAtx1
import Derived.Test.YtigoabhkdipdeaaPFnExactStoreAtx4
import Derived.Test.YtigoabhkdipdeaaPFnExactStoreAtx7
import Derived.Test.YtigoabhkdipdeaaPFnExactStoreAtx8
namespace Go.Proofs.Ytigoabhkdipdeaa.PFnExactStoreAt
open Go.RowKit Go.Proofs.YtigoabhkdipdeaaW.PrintWords Go.Proofs.YtigoabhkdipdeaaW.PrintLast Go.Proofs.YtigoabhkdipdeaaW.PrintMore
attribute [local go_sem] max2_int min2_int max_two min_two max_three min_three max_four min_four   -- for this text's walks alone
set_option linter.unusedVariables false
set_option linter.unusedSimpArgs false

/-! ### laws_FnExactStoreAt: function 5 -/
mutual
def laws_FnExactStoreAt.j0 : Nat → Int → Int → Int → Int → Int → Bool → List (S157) → List (S153) → List (S153) → List (S153) → Option (Bool)
  | 0, _, _, _, _, _, _, _, _, _, _ => none
  | k + 1, x1, x2, x3, x11, x14, x52, x234000, x243000, x247000, x252000 => if x52 = true then (some false) else ((laws_toMemory.f k x234000).bind fun t253 => ((laws_eqMemory.f k x247000 t253).bind fun t256 => (if t256 = true then ((laws_markMemory.f k x247000 1).bind fun bt257 => (if bt257.1 < 0 then (laws_FnExactStoreAt.j1 k x1 x2 x3 x11 true x234000 x243000 x252000) else ((laws_eqMemory.f k x252000 x243000).bind fun t259 => (if t259 = true then (laws_FnExactStoreAt.j1 k x1 x2 x3 x11 (x14 != x11) x234000 x243000 x252000) else (laws_FnExactStoreAt.j1 k x1 x2 x3 x11 true x234000 x243000 x252000))))) else (some false))))
def laws_FnExactStoreAt.j1 : Nat → Int → Int → Int → Int → Bool → List (S157) → List (S153) → List (S153) → Option (Bool)
  | 0, _, _, _, _, _, _, _, _ => none
  | k + 1, x1, x2, x3, x11, x73, x234000, x243000, x252000 => if x73 = true then (some false) else ((laws_markMemory.f k x252000 1).bind fun bt260 => ((laws_heldMemory.f k bt260.2 1).bind fun t262 => (if t262 < 0 then (some false) else (if t262 = bt260.1 then ((laws_toMemory.f k x234000).bind fun t263 => ((impl_StoreAt.f k t263 x1 x2 x3).bind fun bt266 => ((laws_eqMemory.f k bt266.1 x243000).bind fun t271 => (if t271 = true then (laws_FnExactStoreAt.j2 k bt260.1 (bt266.2 != x11) bt260.2) else (laws_FnExactStoreAt.j2 k bt260.1 true bt260.2))))) else (some false)))))
def laws_FnExactStoreAt.j2 : Nat → Int → Bool → List (S153) → Option (Bool)
  | 0, _, _, _ => none
  | k + 1, x16, x102, x252000 => if x102 = true then (some false) else ((laws_heldMemory.f k x252000 1).bind fun t272 => (if t272 < 0 then (some false) else (if t272 = x16 then (some true) else (some false))))
end
def laws_FnExactStoreAt.f (k : Nat) (l0_0 : List (S157)) (a1 : Int) (a2 : Int) (a3 : Int) : Option (Bool) := (laws_szMemory.f k l0_0 1048576).bind fun t234 => (if t234 < 0 then (some true) else ((laws_toMemory.f k l0_0).bind fun t235 => ((spec_StoreAt.f k t235 a1 a2 a3).bind fun bt238 => ((laws_toMemory.f k l0_0).bind fun t243 => ((impl_StoreAt.f k t243 a1 a2 a3).bind fun bt247 => ((laws_eqMemory.f k bt247.1 bt238.1).bind fun t252 => (if t252 = true then (laws_FnExactStoreAt.j0 k a1 a2 a3 bt238.2 bt247.2 (bt247.2 != bt238.2) l0_0 bt238.1 t243 bt247.1) else (laws_FnExactStoreAt.j0 k a1 a2 a3 bt238.2 bt247.2 true l0_0 bt238.1 t243 bt247.1))))))))
theorem laws_FnExactStoreAt.mono_l : ∀ k, (∀ y0 y1 y2 y3 y4 y5 y6 y7 y8 y9, LeO (laws_FnExactStoreAt.j0 k y0 y1 y2 y3 y4 y5 y6 y7 y8 y9) (laws_FnExactStoreAt.j0 (k + 1) y0 y1 y2 y3 y4 y5 y6 y7 y8 y9)) ∧ (∀ y0 y1 y2 y3 y4 y5 y6 y7, LeO (laws_FnExactStoreAt.j1 k y0 y1 y2 y3 y4 y5 y6 y7) (laws_FnExactStoreAt.j1 (k + 1) y0 y1 y2 y3 y4 y5 y6 y7)) ∧ (∀ y0 y1 y2, LeO (laws_FnExactStoreAt.j2 k y0 y1 y2) (laws_FnExactStoreAt.j2 (k + 1) y0 y1 y2))
  | 0 => ⟨fun _ _ _ _ _ _ _ _ _ _ r h => by simp [laws_FnExactStoreAt.j0] at h, fun _ _ _ _ _ _ _ _ r h => by simp [laws_FnExactStoreAt.j1] at h, fun _ _ _ r h => by simp [laws_FnExactStoreAt.j2] at h⟩
  | k + 1 => by
    obtain ⟨ih0, ih1, ih2⟩ := laws_FnExactStoreAt.mono_l k
    refine ⟨?_, ?_, ?_⟩
    · intro y0 y1 y2 y3 y4 y5 y6 y7 y8 y9
      unfold laws_FnExactStoreAt.j0
      repeat' first
      | (with_reducible exact ih0 _ _ _ _ _ _ _ _ _ _)
      | (with_reducible exact ih1 _ _ _ _ _ _ _ _)
      | (with_reducible exact ih2 _ _ _)
      | (with_reducible exact impl_StoreAt.mono _ _ _ _ _)
      | (with_reducible exact laws_eqMemory.mono _ _ _)
      | (with_reducible exact laws_heldMemory.mono _ _ _)
      | (with_reducible exact laws_markMemory.mono _ _ _)
      | (with_reducible exact laws_szMemory.mono _ _ _)
      | (with_reducible exact laws_toMemory.mono _ _)
      | (with_reducible exact spec_StoreAt.mono _ _ _ _ _)
      | (with_reducible exact LeO.refl _)
      | (with_reducible exact LeO.none _)
      | (with_reducible refine LeO.ite ?_ ?_)
      | (with_reducible refine LeO.bind ?_ (fun _ => ?_))
      | refine LeO.ite ?_ ?_
      | refine LeO.bind ?_ (fun _ => ?_)
    · intro y0 y1 y2 y3 y4 y5 y6 y7
      unfold laws_FnExactStoreAt.j1
      repeat' first
      | (with_reducible exact ih0 _ _ _ _ _ _ _ _ _ _)
      | (with_reducible exact ih1 _ _ _ _ _ _ _ _)
      | (with_reducible exact ih2 _ _ _)
      | (with_reducible exact impl_StoreAt.mono _ _ _ _ _)
      | (with_reducible exact laws_eqMemory.mono _ _ _)
      | (with_reducible exact laws_heldMemory.mono _ _ _)
      | (with_reducible exact laws_markMemory.mono _ _ _)
      | (with_reducible exact laws_szMemory.mono _ _ _)
      | (with_reducible exact laws_toMemory.mono _ _)
      | (with_reducible exact spec_StoreAt.mono _ _ _ _ _)
      | (with_reducible exact LeO.refl _)
      | (with_reducible exact LeO.none _)
      | (with_reducible refine LeO.ite ?_ ?_)
      | (with_reducible refine LeO.bind ?_ (fun _ => ?_))
      | refine LeO.ite ?_ ?_
      | refine LeO.bind ?_ (fun _ => ?_)
    · intro y0 y1 y2
      unfold laws_FnExactStoreAt.j2
      repeat' first
      | (with_reducible exact ih0 _ _ _ _ _ _ _ _ _ _)
      | (with_reducible exact ih1 _ _ _ _ _ _ _ _)
      | (with_reducible exact ih2 _ _ _)
      | (with_reducible exact impl_StoreAt.mono _ _ _ _ _)
      | (with_reducible exact laws_eqMemory.mono _ _ _)
      | (with_reducible exact laws_heldMemory.mono _ _ _)
      | (with_reducible exact laws_markMemory.mono _ _ _)
      | (with_reducible exact laws_szMemory.mono _ _ _)
      | (with_reducible exact laws_toMemory.mono _ _)
      | (with_reducible exact spec_StoreAt.mono _ _ _ _ _)
      | (with_reducible exact LeO.refl _)
      | (with_reducible exact LeO.none _)
      | (with_reducible refine LeO.ite ?_ ?_)
      | (with_reducible refine LeO.bind ?_ (fun _ => ?_))
      | refine LeO.ite ?_ ?_
      | refine LeO.bind ?_ (fun _ => ?_)
theorem laws_FnExactStoreAt.mono : ∀ a0 a1 a2 a3 k, LeO (laws_FnExactStoreAt.f k a0 a1 a2 a3) (laws_FnExactStoreAt.f (k + 1) a0 a1 a2 a3) := by
  intro a0 a1 a2 a3 k
  obtain ⟨ih0, ih1, ih2⟩ := laws_FnExactStoreAt.mono_l k
  unfold laws_FnExactStoreAt.f
  repeat' first
      | (with_reducible exact ih0 _ _ _ _ _ _ _ _ _ _)
      | (with_reducible exact ih1 _ _ _ _ _ _ _ _)
      | (with_reducible exact ih2 _ _ _)
      | (with_reducible exact impl_StoreAt.mono _ _ _ _ _)
      | (with_reducible exact laws_eqMemory.mono _ _ _)
      | (with_reducible exact laws_heldMemory.mono _ _ _)
      | (with_reducible exact laws_markMemory.mono _ _ _)
      | (with_reducible exact laws_szMemory.mono _ _ _)
      | (with_reducible exact laws_toMemory.mono _ _)
      | (with_reducible exact spec_StoreAt.mono _ _ _ _ _)
      | (with_reducible exact LeO.refl _)
      | (with_reducible exact LeO.none _)
      | (with_reducible refine LeO.ite ?_ ?_)
      | (with_reducible refine LeO.bind ?_ (fun _ => ?_))
      | refine LeO.ite ?_ ?_
      | refine LeO.bind ?_ (fun _ => ?_)
theorem laws_FnExactStoreAt.e0 {p : Prop} (h : p := by
  obtain rfl := Option.some.inj H
  go_wp2
  go_ret
  exact ⟨by first | rfl | (simp [errW_none, errW_some] <;> rfl) | (simp [*, errW_none, errW_some] <;> rfl), by repeat (first | (with_reducible first | exact HB.out | apply below_alloc | apply pw_below_drewN | apply below_drew1 | refine below_set ?_ GE233.out | refine below_set ?_ GE242.out | refine below_set ?_ GE246.out | refine below_set ?_ GE251.out) | exact HB.out)⟩) : p := h
theorem laws_FnExactStoreAt.e1 {p : Prop} (h : p := by
  obtain rfl := Option.some.inj H
  have hnb_y0 := NB251_233.out
  have hnc_y1 := NB233_251.out
  have hnb_y2 := NB251_242.out
  have hnc_y3 := NB242_251.out
  have hnb_y4 := NB251_246.out
  have hnc_y5 := NB246_251.out
  have hcz_y6 := cz BK251.out 0 (.slice Ao35 t247.length co35)
  have hfz_y7 := blk_frozen BK251.out 0
  go_wp2_with (first | ((with_reducible refine gate_callee (f := 30) rfl ?_); refine goesL_ (some 76) rfl rfl Try.func30 by2 rfl #[.agg #[.slice Ao35 t247.length co35], .int .i64 1] rfl by0 ?_; (with_reducible refine (laws_markMemory.calls kj62 (fun k_ => some k_ = (.slice Ao35 t247.length co35 : Value).ownBlock) (.slice Ao35 t247.length co35) t247 1 t260 t261 w _ ?side1 ?side2 A93.out).mono ?_); (case side1 => repeat (first | (with_reducible first | exact HB.out | apply below_alloc | apply pw_below_drewN | apply below_drew1 | refine below_set ?_ GE233.out | refine below_set ?_ GE242.out | refine below_set ?_ GE246.out | refine below_set ?_ GE251.out) | exact HB.out)); (case side2 => exact Kd.R_tight rfl HO_252000.out); rintro e w_y8 ⟨rfl, hy_y9, hb, hkp⟩; refine ⟨_, rfl, ?_⟩; have n_y10 := Aside0.mk (Kd.R_mono (ok' := fun k_ => some k_ ≠ (.slice Ao29 t258.length co29 : Value).ownBlock ∧ some k_ ≠ (.slice Ao35 t247.length co35 : Value).ownBlock) (Kd.R_keptB (HO_243000.out) hkp (fun k_ hk_ hs_ => (hk_.2) hs_)) (fun k_ hk_ => ⟨hk_.1.1, hk_.1.2⟩)); have n_y11 := Aside0.mk (Kd.R_mono (ok' := fun k_ => some k_ ≠ (.slice Ao23 t238.length co23 : Value).ownBlock ∧ some k_ ≠ (.slice Ao35 t247.length co35 : Value).ownBlock) (Kd.R_keptB (HO_247000.out) hkp (fun k_ hk_ hs_ => (hk_.2) hs_)) (fun k_ hk_ => ⟨hk_.1.1, hk_.1.2⟩)); have n_y12 := Aside0.mk (Kd.R_reok rfl hy_y9 (fun k_ e_ => HO_252000.out.1 k_ e_)); have n_y13 := Aside0.mk (blk_kept by6 hkp (fun hs_ => (fun e_ => (Kd.R_ne HO_252000.out BK233.out (by decide)) e_) hs_)); have n_y14 := Aside0.mk (blk_kept by12 hkp (fun hs_ => (fun e_ => (Kd.R_ne HO_252000.out BK242.out (by decide)) e_) hs_)); have n_y15 := Aside0.mk (blk_kept by13 hkp (fun hs_ => (fun e_ => (Kd.R_ne HO_252000.out BK246.out (by decide)) e_) hs_)); have n_y16 := Aside0.mk (blk_kept by14 hkp (fun hs_ => (fun e_ => (Kd.R_ne HO_252000.out BK251.out (by decide)) e_) hs_)); have n_y17 := Aside0.mk (hb); clear HO_243000; clear HO_247000; clear HO_252000; clear BK233; clear BK242; clear BK246; clear BK251; clear HB; have HO_243000 := n_y10; have HO_247000 := n_y11; have HO_252000 := n_y12; have BK233 := n_y13; have BK242 := n_y14; have BK246 := n_y15; have BK251 := n_y16; have HB := n_y17; clear n_y10 n_y11 n_y12 n_y13 n_y14 n_y15 n_y16 n_y17; (try clear hb); (try clear hkp); (try clear hy_y9); have hcz_y18 := cz BK251.out 0 (.slice Ao35 t247.length co35); have hfz_y19 := blk_frozen BK251.out 0) | ((with_reducible refine gate_callee (f := 31) rfl ?_); refine goesL_ (some 79) rfl rfl Try.func31 by2 rfl #[.agg #[.slice Ao35 t261.length co35], .int .i64 1] rfl by111 ?_; (with_reducible refine (laws_heldMemory.calls kj62 _ _ t261 1 t262 _ ?side1 ?side2 A94.out).mono ?_); (case side1 => repeat (first | exact (Kd.R_reads' HO_252000.out).2.2 | (with_reducible refine Kd.C_alloc ?_ _) | (with_reducible refine Kd.C_drewN ?_ _) | (with_reducible refine Kd.C_drew ?_))); (case side2 => rw [show t261.length = t247.length from (Kd.R_reads' HO_252000.out).1.symm]; exact (Kd.R_reads' HO_252000.out).2.1); rintro e w_y20 ⟨rfl, hb⟩; refine ⟨_, rfl, ?_⟩; have n_y10 := Aside0.mk (Kd.R_below by15 hb); have n_y11 := Aside0.mk (Kd.R_below by16 hb); have n_y12 := Aside0.mk (Kd.R_below by17 hb); have n_y13 := Aside0.mk (blk_below (g := gb233) (o := .cells #[.slice A0_0 l0_0.length c0_0] 37 (0, 0)) by6 hb); have n_y14 := Aside0.mk (blk_below (g := gb242) (o := .cells #[.slice Ao23 t238.length co23] 45 (0, 0)) by12 hb); have n_y15 := Aside0.mk (blk_below (g := gb246) (o := .cells #[.slice Ao29 t258.length co29] 45 (0, 0)) by13 hb); have n_y16 := Aside0.mk (blk_below (g := gb251) (o := .cells #[.slice Ao35 t247.length co35] 45 (0, 0)) by14 hb); have n_y17 := Aside0.mk (below_step by5 hb); clear HO_243000; clear HO_247000; clear HO_252000; clear BK233; clear BK242; clear BK246; clear BK251; clear HB; have HO_243000 := n_y10; have HO_247000 := n_y11; have HO_252000 := n_y12; have BK233 := n_y13; have BK242 := n_y14; have BK246 := n_y15; have BK251 := n_y16; have HB := n_y17; clear n_y10 n_y11 n_y12 n_y13 n_y14 n_y15 n_y16 n_y17; (try clear hb); (try clear hb2); (try clear hk); (try clear hi)))
  go_ret
  exact ⟨by first | rfl | (simp [errW_none, errW_some] <;> rfl) | (simp [*, errW_none, errW_some] <;> rfl), by repeat (first | (with_reducible first | exact HB.out | apply below_alloc | apply pw_below_drewN | apply below_drew1 | refine below_set ?_ GE233.out | refine below_set ?_ GE242.out | refine below_set ?_ GE246.out | refine below_set ?_ GE251.out) | exact HB.out)⟩) : p := h
theorem laws_FnExactStoreAt.e2 {p : Prop} (h : p := by
  obtain rfl := Option.some.inj H
  have hnb_y0 := NB251_233.out
  have hnc_y1 := NB233_251.out
  have hnb_y2 := NB251_242.out
  have hnc_y3 := NB242_251.out
  have hnb_y4 := NB251_246.out
  have hnc_y5 := NB246_251.out
  have hnb_y6 := NB251_270.out
  have hnc_y7 := NB270_251.out
  have hcz_y8 := cz BK251.out 0 (.slice Ao35 t261.length co35)
  have hfz_y9 := blk_frozen BK251.out 0
  go_wp2_with (first | ((with_reducible refine gate_callee (f := 31) rfl ?_); refine goesL_ (some 105) rfl rfl Try.func31 by2 rfl #[.agg #[.slice Ao35 t261.length co35], .int .i64 1] rfl by0 ?_; (with_reducible refine (laws_heldMemory.calls kj105 _ _ t261 1 t272 _ ?side1 ?side2 A150.out).mono ?_); (case side1 => repeat (first | exact (Kd.R_reads' HO_252000.out).2.2 | (with_reducible refine Kd.C_alloc ?_ _) | (with_reducible refine Kd.C_drewN ?_ _) | (with_reducible refine Kd.C_drew ?_))); (case side2 => exact (Kd.R_reads' HO_252000.out).2.1); rintro e w_y10 ⟨rfl, hb⟩; refine ⟨_, rfl, ?_⟩; have n_y11 := Aside0.mk (Kd.R_below by15 hb); have n_y12 := Aside0.mk (Kd.R_below by16 hb); have n_y13 := Aside0.mk (Kd.R_below by17 hb); have n_y14 := Aside0.mk (Kd.R_below (by (with_reducible repeat (first | apply Kd.R_alloc | apply Kd.R_drewN | apply Kd.R_drew)); exact HO_271000.out) hb); have n_y15 := Aside0.mk (blk_below (g := gb233) (o := .cells #[.slice A0_0 l0_0.length c0_0] 37 (0, 0)) by6 hb); have n_y16 := Aside0.mk (blk_below (g := gb242) (o := .cells #[.slice Ao23 t238.length co23] 45 (0, 0)) by12 hb); have n_y17 := Aside0.mk (blk_below (g := gb246) (o := .cells #[.slice Ao29 t258.length co29] 45 (0, 0)) by13 hb); have n_y18 := Aside0.mk (blk_below (g := gb251) (o := .cells #[.slice Ao35 t261.length co35] 45 (0, 0)) by14 hb); have n_y19 := Aside0.mk (blk_below (g := gb270) (o := .cells #[.slice Ao121 t266.length co121] 45 (0, 0)) (by (with_reducible repeat (first | refine blk_drewN ?_ _ | refine blk_drew ?_ | refine blk_alloc ?_ _)); exact BK270.out) hb); have n_y20 := Aside0.mk (below_step by44 hb); clear HO_243000; clear HO_247000; clear HO_252000; clear HO_271000; clear BK233; clear BK242; clear BK246; clear BK251; clear BK270; clear HB; have HO_243000 := n_y11; have HO_247000 := n_y12; have HO_252000 := n_y13; have HO_271000 := n_y14; have BK233 := n_y15; have BK242 := n_y16; have BK246 := n_y17; have BK251 := n_y18; have BK270 := n_y19; have HB := n_y20; clear n_y11 n_y12 n_y13 n_y14 n_y15 n_y16 n_y17 n_y18 n_y19 n_y20; (try clear hb); (try clear hb2); (try clear hk); (try clear hi)))
  go_ret
  exact ⟨by first | rfl | (simp [errW_none, errW_some] <;> rfl) | (simp [*, errW_none, errW_some] <;> rfl), by repeat (first | (with_reducible first | exact HB.out | apply below_alloc | apply pw_below_drewN | apply below_drew1 | refine below_set ?_ GE233.out | refine below_set ?_ GE242.out | refine below_set ?_ GE246.out | refine below_set ?_ GE251.out | refine below_set ?_ GE270.out) | exact HB.out)⟩) : p := h
set_option maxHeartbeats 64000000 in
set_option maxRecDepth 100000 in
theorem laws_FnExactStoreAt.calls (k : Nat) (A0_0 : Option Addr) (c0_0 : Nat) (l0_0 : List (S157)) (a1 : Int) (a2 : Int) (a3 : Int) (r : Bool) (w : World) (hr0_0 : Kd.C k157 w A0_0 l0_0.length l0_0) (hc0_0 : l0_0.length ≤ c0_0) (h : laws_FnExactStoreAt.f k l0_0 a1 a2 a3 = some r) (hr_ : r = true := by rfl) :
    Calls Try.prog 5 #[.agg #[.slice A0_0 l0_0.length c0_0], .int .i64 a1, .int .i64 a2, .int .i64 a3] w fun e w' => e = .returned (.bool r) ∧ Below w.heap.size w w' := by
  have HR_ := Aside0.mk hr_
  clear hr_
  have hu37 := Try.underlying37
  have hu45 := Try.underlying45
  have HR0_0 := Aside0.mk hr0_0
  have HC0_0 := Aside0.mk hc0_0
  clear hr0_0 hc0_0
  have HB := Aside0.mk (Below.refl w.heap.size w)
  have H : ((laws_szMemory.f k l0_0 1048576).bind fun t234 => (if t234 < 0 then (some true) else ((laws_toMemory.f k l0_0).bind fun t235 => ((spec_StoreAt.f k t235 a1 a2 a3).bind fun bt238 => ((laws_toMemory.f k l0_0).bind fun t243 => ((impl_StoreAt.f k t243 a1 a2 a3).bind fun bt247 => ((laws_eqMemory.f k bt247.1 bt238.1).bind fun t252 => (if t252 = true then (laws_FnExactStoreAt.j0 k a1 a2 a3 bt238.2 bt247.2 (bt247.2 != bt238.2) l0_0 bt238.1 t243 bt247.1) else (laws_FnExactStoreAt.j0 k a1 a2 a3 bt238.2 bt247.2 true l0_0 bt238.1 t243 bt247.1))))))))) = some r := h
  clear h
  replace H := Option.bind_eq_some_iff.mp H
  obtain ⟨t234, A50, H⟩ := H
  replace H : (if t234 < 0 then (some true) else ((laws_toMemory.f k l0_0).bind fun t235 => ((spec_StoreAt.f k t235 a1 a2 a3).bind fun bt238 => ((laws_toMemory.f k l0_0).bind fun t243 => ((impl_StoreAt.f k t243 a1 a2 a3).bind fun bt247 => ((laws_eqMemory.f k bt247.1 bt238.1).bind fun t252 => (if t252 = true then (laws_FnExactStoreAt.j0 k a1 a2 a3 bt238.2 bt247.2 (bt247.2 != bt238.2) l0_0 bt238.1 t243 bt247.1) else (laws_FnExactStoreAt.j0 k a1 a2 a3 bt238.2 bt247.2 true l0_0 bt238.1 t243 bt247.1)))))))) = some r := H
  have A5 := Aside0.mk A50
  clear A50
  by_cases c6 : t234 < 0
  · rw [if_pos c6] at H
    have c6b0 : decide (t234 < 0) = true := decide_eq_true c6
    clear c6
    first
      | exact absurd ((Option.some.inj H).trans HR_.out) (by decide)
      | (obtain rfl := Option.some.inj H
         go_enter Try.func5, Try.ntmps5
         go_wp2_with (first | ((with_reducible refine gate_dst (N := 4) rfl ?_); refine box_event ?hg (N := 4) ?hd (cs := #[.slice A0_0 l0_0.length c0_0]) (t := 37) ?hr ?_; (case hd => rfl); (case hg => rfl); (case hr => first | (go_simp; done) | (go_simp; rfl)); intro gb233 hg w7 hbox hb; have n0_ := Aside0.mk (below_step by3 hb); have n1_ := Aside0.mk (hbox); have n2_ := Aside0.mk ((by1 : w.heap.size ≤ gb233)); have n3_ := Aside0.mk ((by1 : w.heap.size ≤ gb233)); clear HB; have HB := n0_; have BK233 := n1_; have GW233 := n2_; have GE233 := n3_; clear n0_ n1_ n2_ n3_; clear hb hbox hg; have hcz8_0 := cz BK233.out 0 (.slice A0_0 l0_0.length c0_0); have hfz8_0 := blk_frozen BK233.out 0) | ((with_reducible refine gate_callee (f := 25) rfl ?_); refine goesL_ (some 22) rfl rfl Try.func25 by2 rfl #[.agg #[.slice A0_0 l0_0.length c0_0], .int .i64 1048576] rfl by0 ?_; (with_reducible refine (laws_szMemory.calls k _ _ l0_0 1048576 t234 _ ?side1 ?side2 A5.out).mono ?_); (case side1 => repeat (first | exact (Kd.C_below HR0_0.out HB.out) | (with_reducible refine Kd.C_alloc ?_ _) | (with_reducible refine Kd.C_drewN ?_ _) | (with_reducible refine Kd.C_drew ?_))); (case side2 => exact HC0_0.out); rintro e w9 ⟨rfl, hb⟩; refine ⟨_, rfl, ?_⟩; have n0_ := Aside0.mk (blk_below (g := gb233) (o := .cells #[.slice A0_0 l0_0.length c0_0] 37 (0, 0)) by6 hb); have n1_ := Aside0.mk (below_step by48 hb); clear BK233; clear HB; have BK233 := n0_; have HB := n1_; clear n0_ n1_; (try clear hb); (try clear hb2); (try clear hk); (try clear hi)))
         go_ret
         exact ⟨by first | rfl | (simp [errW_none, errW_some] <;> rfl) | (simp [*, errW_none, errW_some] <;> rfl), by repeat (first | (with_reducible first | exact HB.out | apply below_alloc | apply pw_below_drewN | apply below_drew1 | refine below_set ?_ GE233.out) | exact HB.out)⟩)
  · rw [if_neg c6] at H
    have c6b0 : decide (t234 < 0) = false := decide_eq_false c6
    clear c6
    replace H := Option.bind_eq_some_iff.mp H
    obtain ⟨t235, A100, H⟩ := H
    replace H : ((spec_StoreAt.f k t235 a1 a2 a3).bind fun bt238 => ((laws_toMemory.f k l0_0).bind fun t243 => ((impl_StoreAt.f k t243 a1 a2 a3).bind fun bt247 => ((laws_eqMemory.f k bt247.1 bt238.1).bind fun t252 => (if t252 = true then (laws_FnExactStoreAt.j0 k a1 a2 a3 bt238.2 bt247.2 (bt247.2 != bt238.2) l0_0 bt238.1 t243 bt247.1) else (laws_FnExactStoreAt.j0 k a1 a2 a3 bt238.2 bt247.2 true l0_0 bt238.1 t243 bt247.1)))))) = some r := H
    have A10 := Aside0.mk A100
    clear A100
    replace H := Option.bind_eq_some_iff.mp H
    obtain ⟨⟨t238, t241⟩, A110, H⟩ := H
    replace H : ((laws_toMemory.f k l0_0).bind fun t243 => ((impl_StoreAt.f k t243 a1 a2 a3).bind fun bt247 => ((laws_eqMemory.f k bt247.1 t238).bind fun t252 => (if t252 = true then (laws_FnExactStoreAt.j0 k a1 a2 a3 t241 bt247.2 (bt247.2 != t241) l0_0 t238 t243 bt247.1) else (laws_FnExactStoreAt.j0 k a1 a2 a3 t241 bt247.2 true l0_0 t238 t243 bt247.1))))) = some r := H
    have A11 := Aside0.mk A110
    clear A110
    replace H := Option.bind_eq_some_iff.mp H
    obtain ⟨t243, A120, H⟩ := H
    replace H : ((impl_StoreAt.f k t243 a1 a2 a3).bind fun bt247 => ((laws_eqMemory.f k bt247.1 t238).bind fun t252 => (if t252 = true then (laws_FnExactStoreAt.j0 k a1 a2 a3 t241 bt247.2 (bt247.2 != t241) l0_0 t238 t243 bt247.1) else (laws_FnExactStoreAt.j0 k a1 a2 a3 t241 bt247.2 true l0_0 t238 t243 bt247.1)))) = some r := H
    have A12 := Aside0.mk A120
    clear A120
    replace H := Option.bind_eq_some_iff.mp H
    obtain ⟨⟨t247, t250⟩, A130, H⟩ := H
    replace H : ((laws_eqMemory.f k t247 t238).bind fun t252 => (if t252 = true then (laws_FnExactStoreAt.j0 k a1 a2 a3 t241 t250 (t250 != t241) l0_0 t238 t243 t247) else (laws_FnExactStoreAt.j0 k a1 a2 a3 t241 t250 true l0_0 t238 t243 t247))) = some r := H
    have A13 := Aside0.mk A130
    clear A130
    have HC14 := Aside0.mk H
    clear H
    go_enter Try.func5, Try.ntmps5
    go_upto_region 8 with (first | ((with_reducible refine gate_dst (N := 4) rfl ?_); refine box_event ?hg (N := 4) ?hd (cs := #[.slice A0_0 l0_0.length c0_0]) (t := 37) ?hr ?_; (case hd => rfl); (case hg => rfl); (case hr => first | (go_simp; done) | (go_simp; rfl)); intro gb233 hg w15 hbox hb; have n0_ := Aside0.mk (below_step by3 hb); have n1_ := Aside0.mk (hbox); have n2_ := Aside0.mk ((by1 : w.heap.size ≤ gb233)); have n3_ := Aside0.mk ((by1 : w.heap.size ≤ gb233)); clear HB; have HB := n0_; have BK233 := n1_; have GW233 := n2_; have GE233 := n3_; clear n0_ n1_ n2_ n3_; clear hb hbox hg; have hcz16_0 := cz BK233.out 0 (.slice A0_0 l0_0.length c0_0); have hfz16_0 := blk_frozen BK233.out 0) | ((with_reducible refine gate_callee (f := 25) rfl ?_); refine goesL_ (some 22) rfl rfl Try.func25 by2 rfl #[.agg #[.slice A0_0 l0_0.length c0_0], .int .i64 1048576] rfl by0 ?_; (with_reducible refine (laws_szMemory.calls k _ _ l0_0 1048576 t234 _ ?side1 ?side2 A5.out).mono ?_); (case side1 => repeat (first | exact (Kd.C_below HR0_0.out HB.out) | (with_reducible refine Kd.C_alloc ?_ _) | (with_reducible refine Kd.C_drewN ?_ _) | (with_reducible refine Kd.C_drew ?_))); (case side2 => exact HC0_0.out); rintro e w17 ⟨rfl, hb⟩; refine ⟨_, rfl, ?_⟩; have n0_ := Aside0.mk (blk_below (g := gb233) (o := .cells #[.slice A0_0 l0_0.length c0_0] 37 (0, 0)) by6 hb); have n1_ := Aside0.mk (below_step by48 hb); clear BK233; clear HB; have BK233 := n0_; have HB := n1_; clear n0_ n1_; (try clear hb); (try clear hb2); (try clear hk); (try clear hi); have hcz18_0 := cz BK233.out 0 (.slice A0_0 l0_0.length c0_0); have hfz18_0 := blk_frozen BK233.out 0) | ((with_reducible refine gate_callee (f := 27) rfl ?_); refine goesL_ (some 27) rfl rfl Try.func27 by2 rfl #[.agg #[.slice A0_0 l0_0.length c0_0]] rfl by0 ?_; (with_reducible refine (laws_toMemory.calls k _ _ l0_0 t235 _ ?side1 ?side2 A10.out).mono ?_); (case side1 => repeat (first | exact (Kd.C_below HR0_0.out HB.out) | (with_reducible refine Kd.C_alloc ?_ _) | (with_reducible refine Kd.C_drewN ?_ _) | (with_reducible refine Kd.C_drew ?_))); (case side2 => exact HC0_0.out); rintro e w19 ⟨v236, rfl, ho0, hb⟩; refine ⟨_, rfl, ?_⟩; have n0_ := Aside0.mk (Kd.R_lower ho0 (below_size by48)); have n1_ := Aside0.mk (blk_below (g := gb233) (o := .cells #[.slice A0_0 l0_0.length c0_0] 37 (0, 0)) by6 hb); have n2_ := Aside0.mk (below_step by48 hb); clear BK233; clear HB; have HO237 := n0_; have BK233 := n1_; have HB := n2_; clear n0_ n1_ n2_; (try clear hb); (try clear hb2); (try clear hk); (try clear hi); (try clear ho0); obtain ⟨Ao20, co20, eo20⟩ := Kd.R_slice HO237.out; subst eo20) | ((with_reducible refine gate_callee (f := 26) rfl ?_); refine goesL_ (some 31) rfl rfl Try.func26 by2 rfl #[.agg #[.slice Ao20 t235.length co20], .int .i64 a1, .int .i64 a2, .int .i64 a3] rfl by0 ?_; (with_reducible refine (spec_StoreAt.calls k (fun k_ => some k_ = (.slice Ao20 t235.length co20 : Value).ownBlock) (.slice Ao20 t235.length co20) t235 a1 a2 a3 t238 t241 w _ ?side1 ?side2 A11.out).mono ?_); (case side1 => repeat (first | (with_reducible first | exact HB.out | apply below_alloc | apply pw_below_drewN | apply below_drew1 | refine below_set ?_ GE233.out) | exact HB.out)); (case side2 => exact Kd.R_tight rfl HO237.out); rintro e w21 ⟨v239, rfl, ho0, hb, hkp⟩; refine ⟨_, rfl, ?_⟩; have n0_ := Aside0.mk (blk_kept by6 hkp (fun hs_ => (fun e_ => (Kd.R_ne HO237.out BK233.out (by decide)) e_) hs_)); have n1_ := Aside0.mk (Kd.R_mono (ok' := fun k_ => True) ho0 (fun k_ hk_ => trivial)); have n2_ := Aside0.mk (hb); clear BK233; clear HB; clear HO237; have BK233 := n0_; have HO240 := n1_; have HB := n2_; clear n0_ n1_ n2_; (try clear hb); (try clear hkp); (try clear ho0)) | ((with_reducible refine gate_dst (N := 10) rfl ?_); refine box_event ?hg (N := 10) ?hd (cs := #[.slice none 0 0]) (t := 45) ?hr ?_; (case hd => rfl); (case hg => rfl); (case hr => first | (go_simp; done) | (go_simp; rfl)); intro gb242 hg w22 hbox hb; have n0_ := Aside0.mk (Kd.R_below by129 hb); have n1_ := Aside0.mk (blk_below (g := gb233) (o := .cells #[.slice A0_0 l0_0.length c0_0] 37 (0, 0)) by6 hb); have n2_ := Aside0.mk (below_step by48 hb); have n3_ := Aside0.mk (hbox); have n4_ := Aside0.mk ((by119 : w.heap.size ≤ gb242)); have n5_ := Aside0.mk ((by119 : w.heap.size ≤ gb242)); have n6_ := Aside0.mk ((by42 : gb233 ≠ gb242)); have n7_ := Aside0.mk ((by43 : gb242 ≠ gb233)); clear HO240; clear BK233; clear HB; have HO240 := n0_; have BK233 := n1_; have HB := n2_; have BK242 := n3_; have GW242 := n4_; have GE242 := n5_; have NB233_242 := n6_; have NB242_233 := n7_; clear n0_ n1_ n2_ n3_ n4_ n5_ n6_ n7_; clear hb hbox hg; obtain ⟨Ao23, co23, eo23⟩ := Kd.R_slice HO240.out; subst eo23; have hnb24 := NB242_233.out; have hnc24 := NB233_242.out; have hcz25_0 := cz BK242.out 0 (.slice none 0 0); have hfz25_0 := blk_frozen BK242.out 0; have hcz26_0 := cz BK233.out 0 (.slice A0_0 l0_0.length c0_0); have hfz26_0 := blk_frozen BK233.out 0) | ((with_reducible refine gate_callee (f := 27) rfl ?_); refine goesL_ (some 35) rfl rfl Try.func27 by2 rfl #[.agg #[.slice A0_0 l0_0.length c0_0]] rfl by0 ?_; (with_reducible refine (laws_toMemory.calls k _ _ l0_0 t243 _ ?side1 ?side2 A12.out).mono ?_); (case side1 => exact Kd.C_below HR0_0.out by55); (case side2 => exact HC0_0.out); rintro e w27 ⟨v244, rfl, ho0, hb⟩; refine ⟨_, rfl, ?_⟩; have n0_ := Aside0.mk (Kd.R_elder' by81 (Kd.R_base ho0) hb); have n1_ := Aside0.mk (Kd.R_lower (Kd.R_new' ho0 (Kd.R_lt by81)) (below_size by55)); have n2_ := Aside0.mk (blk_below (g := gb233) (o := .cells #[.slice A0_0 l0_0.length c0_0] 37 (0, 0)) (by (with_reducible repeat (first | refine blk_drewN ?_ _ | refine blk_drew ?_ | refine blk_alloc ?_ _)); refine blk_far ?_ NB233_242.out _; (with_reducible repeat (first | refine blk_drewN ?_ _ | refine blk_drew ?_ | refine blk_alloc ?_ _)); exact BK233.out) hb); have n3_ := Aside0.mk (blk_below (g := gb242) (o := .cells #[.slice Ao23 t238.length co23] 45 (0, 0)) (by (with_reducible repeat (first | refine blk_drewN ?_ _ | refine blk_drew ?_ | refine blk_alloc ?_ _)); refine blk_put (cs := #[.slice none 0 0]) ?_ 0 _ rfl; (with_reducible repeat (first | refine blk_drewN ?_ _ | refine blk_drew ?_ | refine blk_alloc ?_ _)); exact BK242.out) hb); have n4_ := Aside0.mk (below_step by55 hb); clear HO240; clear BK233; clear BK242; clear HB; have HO240 := n0_; have HO245 := n1_; have BK233 := n2_; have BK242 := n3_; have HB := n4_; clear n0_ n1_ n2_ n3_ n4_; (try clear hb); (try clear hb2); (try clear hk); (try clear hi); (try clear ho0)) | ((with_reducible refine gate_dst (N := 12) rfl ?_); refine box_event ?hg (N := 12) ?hd (cs := #[.slice none 0 0]) (t := 45) ?hr ?_; (case hd => rfl); (case hg => rfl); (case hr => first | (go_simp; done) | (go_simp; rfl)); intro gb246 hg w28 hbox hb; have n0_ := Aside0.mk (Kd.R_below by129 hb); have n1_ := Aside0.mk (Kd.R_below by137 hb); have n2_ := Aside0.mk (blk_below (g := gb233) (o := .cells #[.slice A0_0 l0_0.length c0_0] 37 (0, 0)) by6 hb); have n3_ := Aside0.mk (blk_below (g := gb242) (o := .cells #[.slice Ao23 t238.length co23] 45 (0, 0)) by12 hb); have n4_ := Aside0.mk (below_step by55 hb); have n5_ := Aside0.mk (hbox); have n6_ := Aside0.mk ((by100 : w.heap.size ≤ gb246)); have n7_ := Aside0.mk ((by100 : w.heap.size ≤ gb246)); have n8_ := Aside0.mk ((by42 : gb233 ≠ gb246)); have n9_ := Aside0.mk ((by43 : gb246 ≠ gb233)); have n10_ := Aside0.mk ((by64 : gb242 ≠ gb246)); have n11_ := Aside0.mk ((by65 : gb246 ≠ gb242)); clear HO240; clear HO245; clear BK233; clear BK242; clear HB; have HO240 := n0_; have HO245 := n1_; have BK233 := n2_; have BK242 := n3_; have HB := n4_; have BK246 := n5_; have GW246 := n6_; have GE246 := n7_; have NB233_246 := n8_; have NB246_233 := n9_; have NB242_246 := n10_; have NB246_242 := n11_; clear n0_ n1_ n2_ n3_ n4_ n5_ n6_ n7_ n8_ n9_ n10_ n11_; clear hb hbox hg; obtain ⟨Ao29, co29, eo29⟩ := Kd.R_slice HO245.out; subst eo29; have hnb30 := NB246_233.out; have hnc30 := NB233_246.out; have hnb31 := NB246_242.out; have hnc31 := NB242_246.out; have hcz32_0 := cz BK246.out 0 (.slice none 0 0); have hfz32_0 := blk_frozen BK246.out 0) | ((with_reducible refine gate_callee (f := 28) rfl ?_); refine goesL_ (some 41) rfl rfl Try.func28 by2 rfl #[.agg #[.slice Ao29 t243.length co29], .int .i64 a1, .int .i64 a2, .int .i64 a3] rfl by0 ?_; (with_reducible refine (impl_StoreAt.calls k _ _ t243 a1 a2 a3 t247 t250 _ ?side1 ?side2 A13.out).mono ?_); (case side1 => refine (Kd.R_reads' (e := 153) (base := w.heap.size) (ok := fun k_ => (True ∧ some k_ ≠ (.slice Ao23 t238.length co23 : Value).ownBlock)) (n := t243.length) (c := co29) ?_).2.2; exact by57); (case side2 => exact (Kd.R_reads' HO245.out).2.1); rintro e w33 ⟨v248, rfl, ho0, hb⟩; refine ⟨_, rfl, ?_⟩; have n0_ := Aside0.mk (Kd.R_elder' by82 (Kd.R_base ho0) hb); have n1_ := Aside0.mk (Kd.R_elder' by57 (Kd.R_base ho0) hb); have n2_ := Aside0.mk (Kd.R_lower (Kd.R_new' (Kd.R_new' ho0 (Kd.R_lt by82)) (Kd.R_lt by57)) (below_size by66)); have n3_ := Aside0.mk (blk_below (g := gb233) (o := .cells #[.slice A0_0 l0_0.length c0_0] 37 (0, 0)) (by (with_reducible repeat (first | refine blk_drewN ?_ _ | refine blk_drew ?_ | refine blk_alloc ?_ _)); refine blk_far ?_ NB233_246.out _; (with_reducible repeat (first | refine blk_drewN ?_ _ | refine blk_drew ?_ | refine blk_alloc ?_ _)); exact BK233.out) hb); have n4_ := Aside0.mk (blk_below (g := gb242) (o := .cells #[.slice Ao23 t238.length co23] 45 (0, 0)) (by (with_reducible repeat (first | refine blk_drewN ?_ _ | refine blk_drew ?_ | refine blk_alloc ?_ _)); refine blk_far ?_ NB242_246.out _; (with_reducible repeat (first | refine blk_drewN ?_ _ | refine blk_drew ?_ | refine blk_alloc ?_ _)); exact BK242.out) hb); have n5_ := Aside0.mk (blk_below (g := gb246) (o := .cells #[.slice Ao29 t243.length co29] 45 (0, 0)) (by (with_reducible repeat (first | refine blk_drewN ?_ _ | refine blk_drew ?_ | refine blk_alloc ?_ _)); refine blk_put (cs := #[.slice none 0 0]) ?_ 0 _ rfl; (with_reducible repeat (first | refine blk_drewN ?_ _ | refine blk_drew ?_ | refine blk_alloc ?_ _)); exact BK246.out) hb); have n6_ := Aside0.mk (below_step by66 hb); clear HO240; clear HO245; clear BK233; clear BK242; clear BK246; clear HB; have HO240 := n0_; have HO245 := n1_; have HO249 := n2_; have BK233 := n3_; have BK242 := n4_; have BK246 := n5_; have HB := n6_; clear n0_ n1_ n2_ n3_ n4_ n5_ n6_; (try clear hb); (try clear hb2); (try clear hk); (try clear hi); (try clear ho0)) | ((with_reducible refine gate_dst (N := 13) rfl ?_); refine box_event ?hg (N := 13) ?hd (cs := #[.slice none 0 0]) (t := 45) ?hr ?_; (case hd => rfl); (case hg => rfl); (case hr => first | (go_simp; done) | (go_simp; rfl)); intro gb251 hg w34 hbox hb; have n0_ := Aside0.mk (Kd.R_below by129 hb); have n1_ := Aside0.mk (Kd.R_below by137 hb); have n2_ := Aside0.mk (Kd.R_below (by (with_reducible repeat (first | apply Kd.R_alloc | apply Kd.R_drewN | apply Kd.R_drew)); exact HO249.out) hb); have n3_ := Aside0.mk (blk_below (g := gb233) (o := .cells #[.slice A0_0 l0_0.length c0_0] 37 (0, 0)) by6 hb); have n4_ := Aside0.mk (blk_below (g := gb242) (o := .cells #[.slice Ao23 t238.length co23] 45 (0, 0)) by12 hb); have n5_ := Aside0.mk (blk_below (g := gb246) (o := .cells #[.slice Ao29 t243.length co29] 45 (0, 0)) by13 hb); have n6_ := Aside0.mk (below_step by66 hb); have n7_ := Aside0.mk (hbox); have n8_ := Aside0.mk ((by76 : w.heap.size ≤ gb251)); have n9_ := Aside0.mk ((by76 : w.heap.size ≤ gb251)); have n10_ := Aside0.mk ((by42 : gb233 ≠ gb251)); have n11_ := Aside0.mk ((by43 : gb251 ≠ gb233)); have n12_ := Aside0.mk ((by64 : gb242 ≠ gb251)); have n13_ := Aside0.mk ((by65 : gb251 ≠ gb242)); have n14_ := Aside0.mk ((by rw [hg]; exact Nat.ne_of_lt (blk_lt (g := gb246) (o := .cells #[.slice Ao29 t243.length co29] 45 (0, 0)) by13) : gb246 ≠ gb251)); have n15_ := Aside0.mk ((by rw [hg]; exact Nat.ne_of_gt (blk_lt (g := gb246) (o := .cells #[.slice Ao29 t243.length co29] 45 (0, 0)) by13) : gb251 ≠ gb246)); clear HO240; clear HO245; clear HO249; clear BK233; clear BK242; clear BK246; clear HB; have HO240 := n0_; have HO245 := n1_; have HO249 := n2_; have BK233 := n3_; have BK242 := n4_; have BK246 := n5_; have HB := n6_; have BK251 := n7_; have GW251 := n8_; have GE251 := n9_; have NB233_251 := n10_; have NB251_233 := n11_; have NB242_251 := n12_; have NB251_242 := n13_; have NB246_251 := n14_; have NB251_246 := n15_; clear n0_ n1_ n2_ n3_ n4_ n5_ n6_ n7_ n8_ n9_ n10_ n11_ n12_ n13_ n14_ n15_; clear hb hbox hg; obtain ⟨Ao35, co35, eo35⟩ := Kd.R_slice HO249.out; subst eo35; have hnb36 := NB251_233.out; have hnc36 := NB233_251.out; have hnb37 := NB251_242.out; have hnc37 := NB242_251.out; have hnb38 := NB251_246.out; have hnc38 := NB246_251.out; have hcz39_0 := cz BK251.out 0 (.slice none 0 0); have hfz39_0 := blk_frozen BK251.out 0))
    (try simp only [Act.put, List.setIfInBounds_toArray, List.set_cons_zero, List.set_cons_succ])
    go_cut [52] (fun v52 wc => ∃ (kq : Nat) (x52_13 : Bool), v52 = .bool x52_13 ∧ Aside0 (laws_FnExactStoreAt.j0 kq a1 a2 a3 t241 t250 x52_13 l0_0 t238 t243 t247 = some r) ∧ Aside0 (kq ≤ k) ∧ Aside0 (Kd.R k153 153 wc w.heap.size (fun k_ => some k_ ≠ ((.slice Ao29 t243.length co29) : Value).ownBlock ∧ some k_ ≠ ((.slice Ao35 t247.length co35) : Value).ownBlock) (.slice Ao23 t238.length co23) t238) ∧ Aside0 (Kd.R k153 153 wc w.heap.size (fun k_ => some k_ ≠ ((.slice Ao23 t238.length co23) : Value).ownBlock ∧ some k_ ≠ ((.slice Ao35 t247.length co35) : Value).ownBlock) (.slice Ao29 t243.length co29) t243) ∧ Aside0 (Kd.R k153 153 wc w.heap.size (fun k_ => some k_ ≠ ((.slice Ao23 t238.length co23) : Value).ownBlock ∧ some k_ ≠ ((.slice Ao29 t243.length co29) : Value).ownBlock) (.slice Ao35 t247.length co35) t247) ∧ Aside0 (wc.heap[gb233]? = some (.cells #[(.slice A0_0 l0_0.length c0_0)] 37 (0, 0))) ∧ Aside0 (wc.heap[gb242]? = some (.cells #[(.slice Ao23 t238.length co23)] 45 (0, 0))) ∧ Aside0 (wc.heap[gb246]? = some (.cells #[(.slice Ao29 t243.length co29)] 45 (0, 0))) ∧ Aside0 (wc.heap[gb251]? = some (.cells #[(.slice Ao35 t247.length co35)] 45 (0, 0))) ∧ Aside0 (Below w.heap.size w wc))
    case first =>
      have H := HC14.out
      clear HC14
      replace H := Option.bind_eq_some_iff.mp H
      obtain ⟨t252, A400, H⟩ := H
      replace H : (if t252 = true then (laws_FnExactStoreAt.j0 k a1 a2 a3 t241 t250 (t250 != t241) l0_0 t238 t243 t247) else (laws_FnExactStoreAt.j0 k a1 a2 a3 t241 t250 true l0_0 t238 t243 t247)) = some r := H
      have A40 := Aside0.mk A400
      clear A400
      by_cases c41 : t252 = true
      · subst c41
        have H1 : (laws_FnExactStoreAt.j0 k a1 a2 a3 t241 t250 (t250 != t241) l0_0 t238 t243 t247) = some r := by rw [if_pos rfl] at H; exact H
        clear H
        have H := H1
        clear H1
        have H' := Aside0.mk H
        clear H
        have hnb42 := NB251_233.out
        have hnc42 := NB233_251.out
        have hnb43 := NB251_242.out
        have hnc43 := NB242_251.out
        have hnb44 := NB251_246.out
        have hnc44 := NB246_251.out
        have hcz45_0 := cz BK251.out 0 (.slice none 0 0)
        have hfz45_0 := blk_frozen BK251.out 0
        have hnb46 := NB242_233.out
        have hnc46 := NB233_242.out
        have hnb47 := NB242_246.out
        have hnc47 := NB246_242.out
        have hcz48_0 := cz BK242.out 0 (.slice Ao23 t238.length co23)
        have hfz48_0 := blk_frozen BK242.out 0
        go_wp2_with (first | ((with_reducible refine gate_callee (f := 29) rfl ?_); refine goesL_ (some 46) rfl rfl Try.func29 by2 rfl #[.agg #[.slice Ao35 t247.length co35], .agg #[.slice Ao23 t238.length co23]] rfl by0 ?_; (with_reducible refine (laws_eqMemory.calls k _ _ t247 _ _ t238 true _ ?side1 ?side2 ?side3 ?side4 A40.out).mono ?_); (case side1 => refine (Kd.R_reads' (e := 153) (base := w.heap.size) (ok := fun k_ => ((True ∧ some k_ ≠ (.slice Ao23 t238.length co23 : Value).ownBlock) ∧ some k_ ≠ (.slice Ao29 t243.length co29 : Value).ownBlock)) (n := t247.length) (c := co35) ?_).2.2; exact by36); (case side2 => exact (Kd.R_reads' HO249.out).2.1); (case side3 => refine (Kd.R_reads' (e := 153) (base := w.heap.size) (ok := fun k_ => ((True ∧ some k_ ≠ (.slice Ao29 t243.length co29 : Value).ownBlock) ∧ some k_ ≠ (.slice Ao35 t247.length co35 : Value).ownBlock)) (n := t238.length) (c := co23) ?_).2.2; exact by37); (case side4 => exact (Kd.R_reads' HO240.out).2.1); rintro e w49 ⟨rfl, hb⟩; refine ⟨_, rfl, ?_⟩; have n0_ := Aside0.mk (Kd.R_below by37 hb); have n1_ := Aside0.mk (Kd.R_below by83 hb); have n2_ := Aside0.mk (Kd.R_below by36 hb); have n3_ := Aside0.mk (blk_below (g := gb233) (o := .cells #[.slice A0_0 l0_0.length c0_0] 37 (0, 0)) by84 hb); have n4_ := Aside0.mk (blk_below (g := gb242) (o := .cells #[.slice Ao23 t238.length co23] 45 (0, 0)) by85 hb); have n5_ := Aside0.mk (blk_below (g := gb246) (o := .cells #[.slice Ao29 t243.length co29] 45 (0, 0)) by86 hb); have n6_ := Aside0.mk (blk_below (g := gb251) (o := .cells #[.slice Ao35 t247.length co35] 45 (0, 0)) by73 hb); have n7_ := Aside0.mk (below_step by5 hb); clear HO240; clear HO245; clear HO249; clear BK233; clear BK242; clear BK246; clear BK251; clear HB; have HO240 := n0_; have HO245 := n1_; have HO249 := n2_; have BK233 := n3_; have BK242 := n4_; have BK246 := n5_; have BK251 := n6_; have HB := n7_; clear n0_ n1_ n2_ n3_ n4_ n5_ n6_ n7_; (try clear hb); (try clear hb2); (try clear hk); (try clear hi)))
        go_meet
        case rel => exact ⟨_, ((t250 != t241)), by7, H', ⟨by first | omega | exact Nat.le_refl _⟩, ⟨by (with_reducible repeat (first | apply Kd.R_alloc | apply Kd.R_drewN | apply Kd.R_drew)); exact Kd.R_mono HO240.out (fun _ hk => ⟨hk.1.2, hk.2⟩)⟩, ⟨by (with_reducible repeat (first | apply Kd.R_alloc | apply Kd.R_drewN | apply Kd.R_drew)); exact Kd.R_mono HO245.out (fun _ hk => ⟨hk.1.2, hk.2⟩)⟩, ⟨by (with_reducible repeat (first | apply Kd.R_alloc | apply Kd.R_drewN | apply Kd.R_drew)); exact Kd.R_mono HO249.out (fun _ hk => ⟨hk.1.2, hk.2⟩)⟩, ⟨by (with_reducible repeat (first | refine blk_drewN ?_ _ | refine blk_drew ?_ | refine blk_alloc ?_ _)); exact BK233.out⟩, ⟨by (with_reducible repeat (first | refine blk_drewN ?_ _ | refine blk_drew ?_ | refine blk_alloc ?_ _)); exact BK242.out⟩, ⟨by (with_reducible repeat (first | refine blk_drewN ?_ _ | refine blk_drew ?_ | refine blk_alloc ?_ _)); exact BK246.out⟩, ⟨by (with_reducible repeat (first | refine blk_drewN ?_ _ | refine blk_drew ?_ | refine blk_alloc ?_ _)); exact BK251.out⟩, ⟨by repeat (first | (with_reducible first | exact HB.out | apply below_alloc | apply pw_below_drewN | apply below_drew1 | refine below_set ?_ GE233.out | refine below_set ?_ GE242.out | refine below_set ?_ GE246.out | refine below_set ?_ GE251.out) | exact HB.out)⟩⟩
      · replace c41 := Bool.eq_false_iff.mpr c41
        subst c41
        have H1 : (laws_FnExactStoreAt.j0 k a1 a2 a3 t241 t250 true l0_0 t238 t243 t247) = some r := by rw [if_neg (show ¬ (false = true) by decide)] at H; exact H
        clear H
        have H := H1
        clear H1
        have H' := Aside0.mk H
        clear H
        have hnb50 := NB251_233.out
        have hnc50 := NB233_251.out
        have hnb51 := NB251_242.out
        have hnc51 := NB242_251.out
        have hnb52 := NB251_246.out
        have hnc52 := NB246_251.out
        have hcz53_0 := cz BK251.out 0 (.slice none 0 0)
        have hfz53_0 := blk_frozen BK251.out 0
        have hnb54 := NB242_233.out
        have hnc54 := NB233_242.out
        have hnb55 := NB242_246.out
        have hnc55 := NB246_242.out
        have hcz56_0 := cz BK242.out 0 (.slice Ao23 t238.length co23)
        have hfz56_0 := blk_frozen BK242.out 0
        go_wp2_with (first | ((with_reducible refine gate_callee (f := 29) rfl ?_); refine goesL_ (some 46) rfl rfl Try.func29 by2 rfl #[.agg #[.slice Ao35 t247.length co35], .agg #[.slice Ao23 t238.length co23]] rfl by0 ?_; (with_reducible refine (laws_eqMemory.calls k _ _ t247 _ _ t238 false _ ?side1 ?side2 ?side3 ?side4 A40.out).mono ?_); (case side1 => refine (Kd.R_reads' (e := 153) (base := w.heap.size) (ok := fun k_ => ((True ∧ some k_ ≠ (.slice Ao23 t238.length co23 : Value).ownBlock) ∧ some k_ ≠ (.slice Ao29 t243.length co29 : Value).ownBlock)) (n := t247.length) (c := co35) ?_).2.2; exact by36); (case side2 => exact (Kd.R_reads' HO249.out).2.1); (case side3 => refine (Kd.R_reads' (e := 153) (base := w.heap.size) (ok := fun k_ => ((True ∧ some k_ ≠ (.slice Ao29 t243.length co29 : Value).ownBlock) ∧ some k_ ≠ (.slice Ao35 t247.length co35 : Value).ownBlock)) (n := t238.length) (c := co23) ?_).2.2; exact by37); (case side4 => exact (Kd.R_reads' HO240.out).2.1); rintro e w57 ⟨rfl, hb⟩; refine ⟨_, rfl, ?_⟩; have n0_ := Aside0.mk (Kd.R_below by37 hb); have n1_ := Aside0.mk (Kd.R_below by83 hb); have n2_ := Aside0.mk (Kd.R_below by36 hb); have n3_ := Aside0.mk (blk_below (g := gb233) (o := .cells #[.slice A0_0 l0_0.length c0_0] 37 (0, 0)) by84 hb); have n4_ := Aside0.mk (blk_below (g := gb242) (o := .cells #[.slice Ao23 t238.length co23] 45 (0, 0)) by85 hb); have n5_ := Aside0.mk (blk_below (g := gb246) (o := .cells #[.slice Ao29 t243.length co29] 45 (0, 0)) by86 hb); have n6_ := Aside0.mk (blk_below (g := gb251) (o := .cells #[.slice Ao35 t247.length co35] 45 (0, 0)) by73 hb); have n7_ := Aside0.mk (below_step by5 hb); clear HO240; clear HO245; clear HO249; clear BK233; clear BK242; clear BK246; clear BK251; clear HB; have HO240 := n0_; have HO245 := n1_; have HO249 := n2_; have BK233 := n3_; have BK242 := n4_; have BK246 := n5_; have BK251 := n6_; have HB := n7_; clear n0_ n1_ n2_ n3_ n4_ n5_ n6_ n7_; (try clear hb); (try clear hb2); (try clear hk); (try clear hi)))
        go_meet
        case rel => exact ⟨_, (true), by7, H', ⟨by first | omega | exact Nat.le_refl _⟩, ⟨by (with_reducible repeat (first | apply Kd.R_alloc | apply Kd.R_drewN | apply Kd.R_drew)); exact Kd.R_mono HO240.out (fun _ hk => ⟨hk.1.2, hk.2⟩)⟩, ⟨by (with_reducible repeat (first | apply Kd.R_alloc | apply Kd.R_drewN | apply Kd.R_drew)); exact Kd.R_mono HO245.out (fun _ hk => ⟨hk.1.2, hk.2⟩)⟩, ⟨by (with_reducible repeat (first | apply Kd.R_alloc | apply Kd.R_drewN | apply Kd.R_drew)); exact Kd.R_mono HO249.out (fun _ hk => ⟨hk.1.2, hk.2⟩)⟩, ⟨by (with_reducible repeat (first | refine blk_drewN ?_ _ | refine blk_drew ?_ | refine blk_alloc ?_ _)); exact BK233.out⟩, ⟨by (with_reducible repeat (first | refine blk_drewN ?_ _ | refine blk_drew ?_ | refine blk_alloc ?_ _)); exact BK242.out⟩, ⟨by (with_reducible repeat (first | refine blk_drewN ?_ _ | refine blk_drew ?_ | refine blk_alloc ?_ _)); exact BK246.out⟩, ⟨by (with_reducible repeat (first | refine blk_drewN ?_ _ | refine blk_drew ?_ | refine blk_alloc ?_ _)); exact BK251.out⟩, ⟨by repeat (first | (with_reducible first | exact HB.out | apply below_alloc | apply pw_below_drewN | apply below_drew1 | refine below_set ?_ GE233.out | refine below_set ?_ GE242.out | refine below_set ?_ GE246.out | refine below_set ?_ GE251.out) | exact HB.out)⟩⟩
    case rest =>
      clear HC14
      (try clear c6); (try clear c6b0); (try clear c41); (try clear hcz16_0); (try clear hcz18_0); (try clear hcz25_0); (try clear hcz26_0); (try clear hcz32_0); (try clear hcz39_0); (try clear hcz45_0); (try clear hcz48_0); (try clear hcz53_0); (try clear hcz56_0); (try clear hcz8_0); (try clear hfz16_0); (try clear hfz18_0); (try clear hfz25_0); (try clear hfz26_0); (try clear hfz32_0); (try clear hfz39_0); (try clear hfz45_0); (try clear hfz48_0); (try clear hfz53_0); (try clear hfz56_0); (try clear hfz8_0)
      obtain ⟨kq, x52_13, rfl, HA, HJ13, HO_243000, HO_247000, HO_252000, BK233, BK242, BK246, BK251, HB⟩ := hcut
      cases kq with
      | zero => exact absurd HA.out (by simp [laws_FnExactStoreAt.j0])
      | succ kj13 =>
        have H := HA.out
        clear HA
        simp only [laws_FnExactStoreAt.j0] at H
        by_cases c58 : x52_13 = true
        · subst c58
          have H1 : (some false) = some r := by rw [if_pos rfl] at H; exact H
          clear H
          have H := H1
          clear H1
          first | exact absurd ((Option.some.inj H).trans HR_.out) (by decide) | exact laws_FnExactStoreAt.e0
        · replace c58 := Bool.eq_false_iff.mpr c58
          subst c58
          have H1 : ((laws_toMemory.f kj13 l0_0).bind fun t253 => ((laws_eqMemory.f kj13 t243 t253).bind fun t256 => (if t256 = true then ((laws_markMemory.f kj13 t243 1).bind fun bt257 => (if bt257.1 < 0 then (laws_FnExactStoreAt.j1 kj13 a1 a2 a3 t241 true l0_0 t238 t247) else ((laws_eqMemory.f kj13 t247 t238).bind fun t259 => (if t259 = true then (laws_FnExactStoreAt.j1 kj13 a1 a2 a3 t241 (t250 != t241) l0_0 t238 t247) else (laws_FnExactStoreAt.j1 kj13 a1 a2 a3 t241 true l0_0 t238 t247))))) else (some false)))) = some r := by rw [if_neg (show ¬ (false = true) by decide)] at H; exact H
          clear H
          have H := H1
          clear H1
          replace H := Option.bind_eq_some_iff.mp H
          obtain ⟨t253, A590, H⟩ := H
          replace H : ((laws_eqMemory.f kj13 t243 t253).bind fun t256 => (if t256 = true then ((laws_markMemory.f kj13 t243 1).bind fun bt257 => (if bt257.1 < 0 then (laws_FnExactStoreAt.j1 kj13 a1 a2 a3 t241 true l0_0 t238 t247) else ((laws_eqMemory.f kj13 t247 t238).bind fun t259 => (if t259 = true then (laws_FnExactStoreAt.j1 kj13 a1 a2 a3 t241 (t250 != t241) l0_0 t238 t247) else (laws_FnExactStoreAt.j1 kj13 a1 a2 a3 t241 true l0_0 t238 t247))))) else (some false))) = some r := H
          have A59 := Aside0.mk A590
          clear A590
          replace H := Option.bind_eq_some_iff.mp H
          obtain ⟨t256, A600, H⟩ := H
          replace H : (if t256 = true then ((laws_markMemory.f kj13 t243 1).bind fun bt257 => (if bt257.1 < 0 then (laws_FnExactStoreAt.j1 kj13 a1 a2 a3 t241 true l0_0 t238 t247) else ((laws_eqMemory.f kj13 t247 t238).bind fun t259 => (if t259 = true then (laws_FnExactStoreAt.j1 kj13 a1 a2 a3 t241 (t250 != t241) l0_0 t238 t247) else (laws_FnExactStoreAt.j1 kj13 a1 a2 a3 t241 true l0_0 t238 t247))))) else (some false)) = some r := H
          have A60 := Aside0.mk A600
          clear A600
          by_cases c61 : t256 = true
          · subst c61
            have H1 : ((laws_markMemory.f kj13 t243 1).bind fun bt257 => (if bt257.1 < 0 then (laws_FnExactStoreAt.j1 kj13 a1 a2 a3 t241 true l0_0 t238 t247) else ((laws_eqMemory.f kj13 t247 t238).bind fun t259 => (if t259 = true then (laws_FnExactStoreAt.j1 kj13 a1 a2 a3 t241 (t250 != t241) l0_0 t238 t247) else (laws_FnExactStoreAt.j1 kj13 a1 a2 a3 t241 true l0_0 t238 t247))))) = some r := by rw [if_pos rfl] at H; exact H
            clear H
            have H := H1
            clear H1
            replace H := Option.bind_eq_some_iff.mp H
            obtain ⟨⟨t257, t258⟩, A620, H⟩ := H
            replace H : (if t257 < 0 then (laws_FnExactStoreAt.j1 kj13 a1 a2 a3 t241 true l0_0 t238 t247) else ((laws_eqMemory.f kj13 t247 t238).bind fun t259 => (if t259 = true then (laws_FnExactStoreAt.j1 kj13 a1 a2 a3 t241 (t250 != t241) l0_0 t238 t247) else (laws_FnExactStoreAt.j1 kj13 a1 a2 a3 t241 true l0_0 t238 t247)))) = some r := H
            have A62 := Aside0.mk A620
            clear A620
            have HC63 := Aside0.mk H
            clear H
            try go_wp2
            have n0_ := Aside0.mk (Kd.R_drew HO_243000.out)
            have n1_ := Aside0.mk (Kd.R_drew HO_247000.out)
            have n2_ := Aside0.mk (Kd.R_drew HO_252000.out)
            have n3_ := Aside0.mk (blk_drew BK233.out)
            have n4_ := Aside0.mk (blk_drew BK242.out)
            have n5_ := Aside0.mk (blk_drew BK246.out)
            have n6_ := Aside0.mk (blk_drew BK251.out)
            have n7_ := Aside0.mk (below_drew1 HB.out)
            clear HO_243000
            clear HO_247000
            clear HO_252000
            clear BK233
            clear BK242
            clear BK246
            clear BK251
            clear HB
            have HO_243000 := n0_
            have HO_247000 := n1_
            have HO_252000 := n2_
            have BK233 := n3_
            have BK242 := n4_
            have BK246 := n5_
            have BK251 := n6_
            have HB := n7_
            clear n0_ n1_ n2_ n3_ n4_ n5_ n6_ n7_
            refine start_ (n := 5) (S := fun w' => w'.cell? ⟨gb246, 0, none⟩ = some (.slice Ao29 t243.length co29) ∧ w'.cell? ⟨gb233, 0, none⟩ = some (.slice A0_0 l0_0.length c0_0)) (ds := []) #[false, false, false, false, false] by2 rfl rfl ⟨(blk_cell BK246.out 0).trans rfl, (blk_cell BK233.out 0).trans rfl⟩ (fun hHeld => ?_)
            generalize wc.drew = w64 at HO_243000 HO_247000 HO_252000 BK233 BK242 BK246 BK251 HB hHeld ⊢
            refine take_ (i := 0) (N := some 53) (v := ?_) (a' := ?_) #[true, false, false, false, false] rfl rfl by2 (fun _ _ _ h => h) (Or.inl ⟨by rfl, ?_⟩) hHeld ?_ ?_
            rotate_left
            · rintro w' ⟨s0, s1⟩
              go_simp
              with_reducible rfl
            rotate_left
            · simp only [Act.put, List.setIfInBounds_toArray, List.set_cons_zero, List.set_cons_succ, i64_w, i32_w]
              rfl
            refine take_ (i := 1) (N := some 54) (v := ?_) (a' := ?_) #[true, true, false, false, false] rfl rfl by2 (fun _ _ _ h => h) (Or.inl ⟨by rfl, ?_⟩) hHeld ?_ ?_
            rotate_left
            · rintro w' ⟨s0, s1⟩
              go_simp
              with_reducible rfl
            rotate_left
            · simp only [Act.put, List.setIfInBounds_toArray, List.set_cons_zero, List.set_cons_succ, i64_w, i32_w]
              rfl
            refine one_ (i := 2) (N := some 55) #[true, true, true, false, false] rfl rfl by2 (by decide) (fun K hK => ?_)
            refine goes_ Try.func27 by2 rfl #[.agg #[.slice A0_0 l0_0.length c0_0]] (by rfl) rfl rfl by0 ?_
            with_reducible refine (laws_toMemory.calls kj13 _ _ l0_0 t253 _ ?side1 ?side2 A59.out).mono ?_
            (case side1 => repeat (first | exact (Kd.C_below HR0_0.out HB.out) | (with_reducible refine Kd.C_alloc ?_ _) | (with_reducible refine Kd.C_drewN ?_ _) | (with_reducible refine Kd.C_drew ?_)))
            (case side2 => exact HC0_0.out)
            rintro e w65 ⟨v254, rfl, ho0, hb⟩
            refine ⟨_, rfl, ?_⟩
            have n0_ := Aside0.mk (Kd.R_elder' by15 (Kd.R_base ho0) hb)
            have n1_ := Aside0.mk (Kd.R_elder' by16 (Kd.R_base ho0) hb)
            have n2_ := Aside0.mk (Kd.R_elder' by17 (Kd.R_base ho0) hb)
            have n3_ := Aside0.mk (Kd.R_lower (Kd.R_new' (Kd.R_new' (Kd.R_new' ho0 (Kd.R_lt by15)) (Kd.R_lt by16)) (Kd.R_lt by17)) (below_size by5))
            have n4_ := Aside0.mk (blk_below (g := gb233) (o := .cells #[.slice A0_0 l0_0.length c0_0] 37 (0, 0)) by6 hb)
            have n5_ := Aside0.mk (blk_below (g := gb242) (o := .cells #[.slice Ao23 t238.length co23] 45 (0, 0)) by12 hb)
            have n6_ := Aside0.mk (blk_below (g := gb246) (o := .cells #[.slice Ao29 t243.length co29] 45 (0, 0)) by13 hb)
            have n7_ := Aside0.mk (blk_below (g := gb251) (o := .cells #[.slice Ao35 t247.length co35] 45 (0, 0)) by14 hb)
            have n8_ := Aside0.mk (below_step by5 hb)
            clear HO_243000
            clear HO_247000
            clear HO_252000
            clear BK233
            clear BK242
            clear BK246
            clear BK251
            clear HB
            have HO_243000 := n0_
            have HO_247000 := n1_
            have HO_252000 := n2_
            have HO255 := n3_
            have BK233 := n4_
            have BK242 := n5_
            have BK246 := n6_
            have BK251 := n7_
            have HB := n8_
            clear n0_ n1_ n2_ n3_ n4_ n5_ n6_ n7_ n8_
            (try clear hb)
            (try clear hb2)
            (try clear hk)
            (try clear hi)
            (try clear ho0)
            obtain ⟨Ao66, co66, eo66⟩ := Kd.R_slice HO255.out
            (first | subst eo66 | (injection eo66 with f1_ f2_ f3_; have f4_ := f1_.symm; have f5_ := f3_.symm; clear f1_ f2_ f3_; subst f4_; subst f5_))
            refine hK.out _ _ ⟨(blk_cell BK246.out 0).trans rfl, (blk_cell BK233.out 0).trans rfl⟩ (fun hHeld => ?_)
            clear hK K
            refine norm_ (a' := ?_) ?_ ?_
            rotate_left
            · show Act.put _ (some 55) _ = _
              simp only [Act.put, List.setIfInBounds_toArray, List.set_cons_zero, List.set_cons_succ, i64_w, i32_w]
              rfl
            refine one_ (i := 3) (N := some 56) #[true, true, true, true, false] rfl rfl by2 (by decide) (fun K hK => ?_)
            refine goes_ Try.func29 by2 rfl #[.agg #[.slice Ao29 t243.length co29], .agg #[.slice Ao66 t253.length co66]] (by rfl) rfl rfl by0 ?_
            with_reducible refine (laws_eqMemory.calls kj13 _ _ t243 _ _ t253 true _ ?side1 ?side2 ?side3 ?side4 A60.out).mono ?_
            (case side1 => repeat (first | exact (Kd.R_reads' HO_247000.out).2.2 | (with_reducible refine Kd.C_alloc ?_ _) | (with_reducible refine Kd.C_drewN ?_ _) | (with_reducible refine Kd.C_drew ?_)))
            (case side2 => exact (Kd.R_reads' HO_247000.out).2.1)
            (case side3 => repeat (first | exact (Kd.R_reads' HO255.out).2.2 | (with_reducible refine Kd.C_alloc ?_ _) | (with_reducible refine Kd.C_drewN ?_ _) | (with_reducible refine Kd.C_drew ?_)))
            (case side4 => exact (Kd.R_reads' HO255.out).2.1)
            rintro e w67 ⟨rfl, hb⟩
            refine ⟨_, rfl, ?_⟩
            have n0_ := Aside0.mk (Kd.R_below by15 hb)
            have n1_ := Aside0.mk (Kd.R_below by16 hb)
            have n2_ := Aside0.mk (Kd.R_below by17 hb)
            have n3_ := Aside0.mk (Kd.R_below by112 hb)
            have n4_ := Aside0.mk (blk_below (g := gb233) (o := .cells #[.slice A0_0 l0_0.length c0_0] 37 (0, 0)) by6 hb)
            have n5_ := Aside0.mk (blk_below (g := gb242) (o := .cells #[.slice Ao23 t238.length co23] 45 (0, 0)) by12 hb)
            have n6_ := Aside0.mk (blk_below (g := gb246) (o := .cells #[.slice Ao29 t243.length co29] 45 (0, 0)) by13 hb)
            have n7_ := Aside0.mk (blk_below (g := gb251) (o := .cells #[.slice Ao35 t247.length co35] 45 (0, 0)) by14 hb)
            have n8_ := Aside0.mk (below_step by5 hb)
            clear HO_243000
            clear HO_247000
            clear HO_252000
            clear HO255
            clear BK233
            clear BK242
            clear BK246
            clear BK251
            clear HB
            have HO_243000 := n0_
            have HO_247000 := n1_
            have HO_252000 := n2_
            have HO255 := n3_
            have BK233 := n4_
            have BK242 := n5_
            have BK246 := n6_
            have BK251 := n7_
            have HB := n8_
            clear n0_ n1_ n2_ n3_ n4_ n5_ n6_ n7_ n8_
            (try clear hb)
            (try clear hb2)
            (try clear hk)
            (try clear hi)
            refine hK.out _ _ ⟨(blk_cell BK246.out 0).trans rfl, (blk_cell BK233.out 0).trans rfl⟩ (fun hHeld => ?_)
            clear hK K
            refine norm_ (a' := ?_) ?_ ?_
            rotate_left
            · show Act.put _ (some 56) _ = _
              simp only [Act.put, List.setIfInBounds_toArray, List.set_cons_zero, List.set_cons_succ, i64_w, i32_w]
              rfl
            refine pure_ (i := 4) (N := some 57) (v := ?_) (a' := ?_) #[true, true, true, true, true] rfl rfl by2 (fun _ _ _ h => h) (Or.inl ⟨by rfl, ?_⟩) ?_ ?_
            rotate_left
            · intro w'
              go_simp
              with_reducible rfl
            rotate_left
            · simp only [Act.put, List.setIfInBounds_toArray, List.set_cons_zero, List.set_cons_succ, i64_w, i32_w]
              rfl
            refine done_ by2 ?_
            have hnb68 := NB246_233.out
            have hnc68 := NB233_246.out
            have hnb69 := NB246_242.out
            have hnc69 := NB242_246.out
            have hnb70 := NB246_251.out
            have hnc70 := NB251_246.out
            have hcz71_0 := cz BK246.out 0 (.slice Ao29 t243.length co29)
            have hfz71_0 := blk_frozen BK246.out 0
            go_upto_region 14 with (first | ((with_reducible refine gate_callee (f := 30) rfl ?_); refine goesL_ (some 60) rfl rfl Try.func30 by2 rfl #[.agg #[.slice Ao29 t243.length co29], .int .i64 1] rfl by0 ?_; (with_reducible refine (laws_markMemory.calls kj13 (fun k_ => some k_ = (.slice Ao29 t243.length co29 : Value).ownBlock) (.slice Ao29 t243.length co29) t243 1 t257 t258 w _ ?side1 ?side2 A62.out).mono ?_); (case side1 => repeat (first | (with_reducible first | exact HB.out | apply below_alloc | apply pw_below_drewN | apply below_drew1 | refine below_set ?_ GE233.out | refine below_set ?_ GE242.out | refine below_set ?_ GE246.out | refine below_set ?_ GE251.out) | exact HB.out)); (case side2 => exact Kd.R_tight rfl HO_247000.out); rintro e w72 ⟨rfl, hy0, hb, hkp⟩; refine ⟨_, rfl, ?_⟩; have n0_ := Aside0.mk (Kd.R_mono (ok' := fun k_ => some k_ ≠ (.slice Ao29 t243.length co29 : Value).ownBlock ∧ some k_ ≠ (.slice Ao35 t247.length co35 : Value).ownBlock ∧ some k_ ≠ (.slice Ao66 t253.length co66 : Value).ownBlock) (Kd.R_keptB (HO_243000.out) hkp (fun k_ hk_ hs_ => (hk_.1.1) hs_)) (fun k_ hk_ => ⟨hk_.1.1.1, hk_.1.1.2, hk_.1.2⟩)); have n1_ := Aside0.mk (Kd.R_reok rfl hy0 (fun k_ e_ => HO_247000.out.1 k_ e_)); have n2_ := Aside0.mk (Kd.R_mono (ok' := fun k_ => some k_ ≠ (.slice Ao23 t238.length co23 : Value).ownBlock ∧ some k_ ≠ (.slice Ao29 t243.length co29 : Value).ownBlock ∧ some k_ ≠ (.slice Ao66 t253.length co66 : Value).ownBlock) (Kd.R_keptB (HO_252000.out) hkp (fun k_ hk_ hs_ => (hk_.1.2) hs_)) (fun k_ hk_ => ⟨hk_.1.1.1, hk_.1.1.2, hk_.1.2⟩)); have n3_ := Aside0.mk (blk_kept by6 hkp (fun hs_ => (fun e_ => (Kd.R_ne HO_247000.out BK233.out (by decide)) e_) hs_)); have n4_ := Aside0.mk (blk_kept by12 hkp (fun hs_ => (fun e_ => (Kd.R_ne HO_247000.out BK242.out (by decide)) e_) hs_)); have n5_ := Aside0.mk (blk_kept by13 hkp (fun hs_ => (fun e_ => (Kd.R_ne HO_247000.out BK246.out (by decide)) e_) hs_)); have n6_ := Aside0.mk (blk_kept by14 hkp (fun hs_ => (fun e_ => (Kd.R_ne HO_247000.out BK251.out (by decide)) e_) hs_)); have n7_ := Aside0.mk (Kd.R_mono (ok' := fun k_ => some k_ ≠ (.slice Ao23 t238.length co23 : Value).ownBlock ∧ some k_ ≠ (.slice Ao29 t243.length co29 : Value).ownBlock ∧ some k_ ≠ (.slice Ao35 t247.length co35 : Value).ownBlock) (Kd.R_keptB (HO255.out) hkp (fun k_ hk_ hs_ => (hk_.1.2) hs_)) (fun k_ hk_ => ⟨hk_.1.1.1.2, hk_.1.1.2, hk_.1.2⟩)); have n8_ := Aside0.mk (hb); clear HO_243000; clear HO_247000; clear HO_252000; clear BK233; clear BK242; clear BK246; clear BK251; clear HO255; clear HB; have HO_243000 := n0_; have HO_247000 := n1_; have HO_252000 := n2_; have BK233 := n3_; have BK242 := n4_; have BK246 := n5_; have BK251 := n6_; have HO255 := n7_; have HB := n8_; clear n0_ n1_ n2_ n3_ n4_ n5_ n6_ n7_ n8_; (try clear hb); (try clear hkp); (try clear hy0)))
            (try simp only [Act.put, List.setIfInBounds_toArray, List.set_cons_zero, List.set_cons_succ])
            go_cut [73] (fun v73 wc => ∃ (kq : Nat) (x73_62 : Bool), v73 = .bool x73_62 ∧ Aside0 (laws_FnExactStoreAt.j1 kq a1 a2 a3 t241 x73_62 l0_0 t238 t247 = some r) ∧ Aside0 (kq ≤ kj13) ∧ Aside0 (Kd.R k153 153 wc w.heap.size (fun k_ => some k_ ≠ ((.slice Ao29 t243.length co29) : Value).ownBlock ∧ some k_ ≠ ((.slice Ao35 t247.length co35) : Value).ownBlock) (.slice Ao23 t238.length co23) t238) ∧ Aside0 (Kd.R k153 153 wc w.heap.size (fun k_ => some k_ ≠ ((.slice Ao23 t238.length co23) : Value).ownBlock ∧ some k_ ≠ ((.slice Ao35 t247.length co35) : Value).ownBlock) (.slice Ao29 t243.length co29) t258) ∧ Aside0 (Kd.R k153 153 wc w.heap.size (fun k_ => some k_ ≠ ((.slice Ao23 t238.length co23) : Value).ownBlock ∧ some k_ ≠ ((.slice Ao29 t243.length co29) : Value).ownBlock) (.slice Ao35 t247.length co35) t247) ∧ Aside0 (wc.heap[gb233]? = some (.cells #[(.slice A0_0 l0_0.length c0_0)] 37 (0, 0))) ∧ Aside0 (wc.heap[gb242]? = some (.cells #[(.slice Ao23 t238.length co23)] 45 (0, 0))) ∧ Aside0 (wc.heap[gb246]? = some (.cells #[(.slice Ao29 t243.length co29)] 45 (0, 0))) ∧ Aside0 (wc.heap[gb251]? = some (.cells #[(.slice Ao35 t247.length co35)] 45 (0, 0))) ∧ Aside0 (Below w.heap.size w wc))
            case first =>
              have H := HC63.out
              clear HC63
              by_cases c73 : t257 < 0
              · rw [if_pos c73] at H
                have c73b0 : decide (t257 < 0) = true := decide_eq_true c73
                clear c73
                (first | rw [c73b0] | (simp only [i64_w, i32_w]; rw [c73b0]) | rw [c73b1] | skip)
                have H' := Aside0.mk H
                clear H
                go_wp2
                go_meet
                case rel => exact ⟨_, (true), by7, H', ⟨by have := HJ13.out; first | omega | exact Nat.le_refl _⟩, ⟨by (with_reducible repeat (first | apply Kd.R_alloc | apply Kd.R_drewN | apply Kd.R_drew)); exact Kd.R_mono HO_243000.out (fun _ hk => ⟨hk.1, hk.2.1⟩)⟩, ⟨by (with_reducible repeat (first | apply Kd.R_alloc | apply Kd.R_drewN | apply Kd.R_drew)); exact Kd.R_mono HO_247000.out (fun _ hk => ⟨hk.1.1, hk.1.2⟩)⟩, ⟨by (with_reducible repeat (first | apply Kd.R_alloc | apply Kd.R_drewN | apply Kd.R_drew)); exact Kd.R_mono HO_252000.out (fun _ hk => ⟨hk.1, hk.2.1⟩)⟩, ⟨by (with_reducible repeat (first | refine blk_drewN ?_ _ | refine blk_drew ?_ | refine blk_alloc ?_ _)); exact BK233.out⟩, ⟨by (with_reducible repeat (first | refine blk_drewN ?_ _ | refine blk_drew ?_ | refine blk_alloc ?_ _)); exact BK242.out⟩, ⟨by (with_reducible repeat (first | refine blk_drewN ?_ _ | refine blk_drew ?_ | refine blk_alloc ?_ _)); exact BK246.out⟩, ⟨by (with_reducible repeat (first | refine blk_drewN ?_ _ | refine blk_drew ?_ | refine blk_alloc ?_ _)); exact BK251.out⟩, ⟨by repeat (first | (with_reducible first | exact HB.out | apply below_alloc | apply pw_below_drewN | apply below_drew1 | refine below_set ?_ GE233.out | refine below_set ?_ GE242.out | refine below_set ?_ GE246.out | refine below_set ?_ GE251.out) | exact HB.out)⟩⟩
              · rw [if_neg c73] at H
                have c73b0 : decide (t257 < 0) = false := decide_eq_false c73
                clear c73
                (first | rw [c73b0] | (simp only [i64_w, i32_w]; rw [c73b0]) | rw [c73b1] | skip)
                replace H := Option.bind_eq_some_iff.mp H
                obtain ⟨t259, A740, H⟩ := H
                replace H : (if t259 = true then (laws_FnExactStoreAt.j1 kj13 a1 a2 a3 t241 (t250 != t241) l0_0 t238 t247) else (laws_FnExactStoreAt.j1 kj13 a1 a2 a3 t241 true l0_0 t238 t247)) = some r := H
                have A74 := Aside0.mk A740
                clear A740
                by_cases c75 : t259 = true
                · subst c75
                  have H1 : (laws_FnExactStoreAt.j1 kj13 a1 a2 a3 t241 (t250 != t241) l0_0 t238 t247) = some r := by rw [if_pos rfl] at H; exact H
                  clear H
                  have H := H1
                  clear H1
                  have H' := Aside0.mk H
                  clear H
                  have hnb76 := NB251_233.out
                  have hnc76 := NB233_251.out
                  have hnb77 := NB251_242.out
                  have hnc77 := NB242_251.out
                  have hnb78 := NB251_246.out
                  have hnc78 := NB246_251.out
                  have hcz79_0 := cz BK251.out 0 (.slice Ao35 t247.length co35)
                  have hfz79_0 := blk_frozen BK251.out 0
                  have hnb80 := NB242_233.out
                  have hnc80 := NB233_242.out
                  have hnb81 := NB242_246.out
                  have hnc81 := NB246_242.out
                  have hcz82_0 := cz BK242.out 0 (.slice Ao23 t238.length co23)
                  have hfz82_0 := blk_frozen BK242.out 0
                  go_wp2_with (first | (go_at_call 29; (with_reducible refine (laws_eqMemory.calls kj13 _ _ t247 _ _ t238 true _ ?side1 ?side2 ?side3 ?side4 A74.out).mono ?_); (case side1 => repeat (first | exact (Kd.R_reads' HO_252000.out).2.2 | (with_reducible refine Kd.C_alloc ?_ _) | (with_reducible refine Kd.C_drewN ?_ _) | (with_reducible refine Kd.C_drew ?_))); (case side2 => exact (Kd.R_reads' HO_252000.out).2.1); (case side3 => repeat (first | exact (Kd.R_reads' HO_243000.out).2.2 | (with_reducible refine Kd.C_alloc ?_ _) | (with_reducible refine Kd.C_drewN ?_ _) | (with_reducible refine Kd.C_drew ?_))); (case side4 => exact (Kd.R_reads' HO_243000.out).2.1); rintro e w83 ⟨rfl, hb⟩; have n0_ := Aside0.mk (Kd.R_below by15 hb); have n1_ := Aside0.mk (Kd.R_below by16 hb); have n2_ := Aside0.mk (Kd.R_below by17 hb); have n3_ := Aside0.mk (Kd.R_below by112 hb); have n4_ := Aside0.mk (blk_below (g := gb233) (o := .cells #[.slice A0_0 l0_0.length c0_0] 37 (0, 0)) by6 hb); have n5_ := Aside0.mk (blk_below (g := gb242) (o := .cells #[.slice Ao23 t238.length co23] 45 (0, 0)) by12 hb); have n6_ := Aside0.mk (blk_below (g := gb246) (o := .cells #[.slice Ao29 t243.length co29] 45 (0, 0)) by13 hb); have n7_ := Aside0.mk (blk_below (g := gb251) (o := .cells #[.slice Ao35 t247.length co35] 45 (0, 0)) by14 hb); have n8_ := Aside0.mk (below_step by5 hb); clear HO_243000; clear HO_247000; clear HO_252000; clear HO255; clear BK233; clear BK242; clear BK246; clear BK251; clear HB; have HO_243000 := n0_; have HO_247000 := n1_; have HO_252000 := n2_; have HO255 := n3_; have BK233 := n4_; have BK242 := n5_; have BK246 := n6_; have BK251 := n7_; have HB := n8_; clear n0_ n1_ n2_ n3_ n4_ n5_ n6_ n7_ n8_; (try clear hb); (try clear hb2); (try clear hk); (try clear hi)))
                  go_meet
                  case rel => exact ⟨_, ((t250 != t241)), by7, H', ⟨by have := HJ13.out; first | omega | exact Nat.le_refl _⟩, ⟨by (with_reducible repeat (first | apply Kd.R_alloc | apply Kd.R_drewN | apply Kd.R_drew)); exact Kd.R_mono HO_243000.out (fun _ hk => ⟨hk.1, hk.2.1⟩)⟩, ⟨by (with_reducible repeat (first | apply Kd.R_alloc | apply Kd.R_drewN | apply Kd.R_drew)); exact Kd.R_mono HO_247000.out (fun _ hk => ⟨hk.1.1, hk.1.2⟩)⟩, ⟨by (with_reducible repeat (first | apply Kd.R_alloc | apply Kd.R_drewN | apply Kd.R_drew)); exact Kd.R_mono HO_252000.out (fun _ hk => ⟨hk.1, hk.2.1⟩)⟩, ⟨by (with_reducible repeat (first | refine blk_drewN ?_ _ | refine blk_drew ?_ | refine blk_alloc ?_ _)); exact BK233.out⟩, ⟨by (with_reducible repeat (first | refine blk_drewN ?_ _ | refine blk_drew ?_ | refine blk_alloc ?_ _)); exact BK242.out⟩, ⟨by (with_reducible repeat (first | refine blk_drewN ?_ _ | refine blk_drew ?_ | refine blk_alloc ?_ _)); exact BK246.out⟩, ⟨by (with_reducible repeat (first | refine blk_drewN ?_ _ | refine blk_drew ?_ | refine blk_alloc ?_ _)); exact BK251.out⟩, ⟨by repeat (first | (with_reducible first | exact HB.out | apply below_alloc | apply pw_below_drewN | apply below_drew1 | refine below_set ?_ GE233.out | refine below_set ?_ GE242.out | refine below_set ?_ GE246.out | refine below_set ?_ GE251.out) | exact HB.out)⟩⟩
                · replace c75 := Bool.eq_false_iff.mpr c75
                  subst c75
                  have H1 : (laws_FnExactStoreAt.j1 kj13 a1 a2 a3 t241 true l0_0 t238 t247) = some r := by rw [if_neg (show ¬ (false = true) by decide)] at H; exact H
                  clear H
                  have H := H1
                  clear H1
                  have H' := Aside0.mk H
                  clear H
                  have hnb84 := NB251_233.out
                  have hnc84 := NB233_251.out
                  have hnb85 := NB251_242.out
                  have hnc85 := NB242_251.out
                  have hnb86 := NB251_246.out
                  have hnc86 := NB246_251.out
                  have hcz87_0 := cz BK251.out 0 (.slice Ao35 t247.length co35)
                  have hfz87_0 := blk_frozen BK251.out 0
                  have hnb88 := NB242_233.out
                  have hnc88 := NB233_242.out
                  have hnb89 := NB242_246.out
                  have hnc89 := NB246_242.out
                  have hcz90_0 := cz BK242.out 0 (.slice Ao23 t238.length co23)
                  have hfz90_0 := blk_frozen BK242.out 0
                  go_wp2_with (first | (go_at_call 29; (with_reducible refine (laws_eqMemory.calls kj13 _ _ t247 _ _ t238 false _ ?side1 ?side2 ?side3 ?side4 A74.out).mono ?_); (case side1 => repeat (first | exact (Kd.R_reads' HO_252000.out).2.2 | (with_reducible refine Kd.C_alloc ?_ _) | (with_reducible refine Kd.C_drewN ?_ _) | (with_reducible refine Kd.C_drew ?_))); (case side2 => exact (Kd.R_reads' HO_252000.out).2.1); (case side3 => repeat (first | exact (Kd.R_reads' HO_243000.out).2.2 | (with_reducible refine Kd.C_alloc ?_ _) | (with_reducible refine Kd.C_drewN ?_ _) | (with_reducible refine Kd.C_drew ?_))); (case side4 => exact (Kd.R_reads' HO_243000.out).2.1); rintro e w91 ⟨rfl, hb⟩; have n0_ := Aside0.mk (Kd.R_below by15 hb); have n1_ := Aside0.mk (Kd.R_below by16 hb); have n2_ := Aside0.mk (Kd.R_below by17 hb); have n3_ := Aside0.mk (Kd.R_below by112 hb); have n4_ := Aside0.mk (blk_below (g := gb233) (o := .cells #[.slice A0_0 l0_0.length c0_0] 37 (0, 0)) by6 hb); have n5_ := Aside0.mk (blk_below (g := gb242) (o := .cells #[.slice Ao23 t238.length co23] 45 (0, 0)) by12 hb); have n6_ := Aside0.mk (blk_below (g := gb246) (o := .cells #[.slice Ao29 t243.length co29] 45 (0, 0)) by13 hb); have n7_ := Aside0.mk (blk_below (g := gb251) (o := .cells #[.slice Ao35 t247.length co35] 45 (0, 0)) by14 hb); have n8_ := Aside0.mk (below_step by5 hb); clear HO_243000; clear HO_247000; clear HO_252000; clear HO255; clear BK233; clear BK242; clear BK246; clear BK251; clear HB; have HO_243000 := n0_; have HO_247000 := n1_; have HO_252000 := n2_; have HO255 := n3_; have BK233 := n4_; have BK242 := n5_; have BK246 := n6_; have BK251 := n7_; have HB := n8_; clear n0_ n1_ n2_ n3_ n4_ n5_ n6_ n7_ n8_; (try clear hb); (try clear hb2); (try clear hk); (try clear hi)))
                  go_meet
                  case rel => exact ⟨_, (true), by7, H', ⟨by have := HJ13.out; first | omega | exact Nat.le_refl _⟩, ⟨by (with_reducible repeat (first | apply Kd.R_alloc | apply Kd.R_drewN | apply Kd.R_drew)); exact Kd.R_mono HO_243000.out (fun _ hk => ⟨hk.1, hk.2.1⟩)⟩, ⟨by (with_reducible repeat (first | apply Kd.R_alloc | apply Kd.R_drewN | apply Kd.R_drew)); exact Kd.R_mono HO_247000.out (fun _ hk => ⟨hk.1.1, hk.1.2⟩)⟩, ⟨by (with_reducible repeat (first | apply Kd.R_alloc | apply Kd.R_drewN | apply Kd.R_drew)); exact Kd.R_mono HO_252000.out (fun _ hk => ⟨hk.1, hk.2.1⟩)⟩, ⟨by (with_reducible repeat (first | refine blk_drewN ?_ _ | refine blk_drew ?_ | refine blk_alloc ?_ _)); exact BK233.out⟩, ⟨by (with_reducible repeat (first | refine blk_drewN ?_ _ | refine blk_drew ?_ | refine blk_alloc ?_ _)); exact BK242.out⟩, ⟨by (with_reducible repeat (first | refine blk_drewN ?_ _ | refine blk_drew ?_ | refine blk_alloc ?_ _)); exact BK246.out⟩, ⟨by (with_reducible repeat (first | refine blk_drewN ?_ _ | refine blk_drew ?_ | refine blk_alloc ?_ _)); exact BK251.out⟩, ⟨by repeat (first | (with_reducible first | exact HB.out | apply below_alloc | apply pw_below_drewN | apply below_drew1 | refine below_set ?_ GE233.out | refine below_set ?_ GE242.out | refine below_set ?_ GE246.out | refine below_set ?_ GE251.out) | exact HB.out)⟩⟩
            case rest =>
              clear HC63
              (try clear c6); (try clear c6b0); (try clear c41); (try clear c58); (try clear c61); (try clear c73); (try clear c73b0); (try clear c73b1); (try clear c75); (try clear hcz16_0); (try clear hcz18_0); (try clear hcz25_0); (try clear hcz26_0); (try clear hcz32_0); (try clear hcz39_0); (try clear hcz45_0); (try clear hcz48_0); (try clear hcz53_0); (try clear hcz56_0); (try clear hcz71_0); (try clear hcz79_0); (try clear hcz82_0); (try clear hcz87_0); (try clear hcz8_0); (try clear hcz90_0); (try clear hfz16_0); (try clear hfz18_0); (try clear hfz25_0); (try clear hfz26_0); (try clear hfz32_0); (try clear hfz39_0); (try clear hfz45_0); (try clear hfz48_0); (try clear hfz53_0); (try clear hfz56_0); (try clear hfz71_0); (try clear hfz79_0); (try clear hfz82_0); (try clear hfz87_0); (try clear hfz8_0); (try clear hfz90_0)
              obtain ⟨kq, x73_62, rfl, HA, HJ62, HO_243000, HO_247000, HO_252000, BK233, BK242, BK246, BK251, HB⟩ := hcut
              have hl247000_62 := (Kd.R_reads' HO_247000.out).1
              rw [hl247000_62] at HO_247000
              (try simp only [hl247000_62])
              (try simp only [hl247000_62] at BK233)
              (try simp only [hl247000_62] at BK242)
              (try simp only [hl247000_62] at BK246)
              (try simp only [hl247000_62] at BK251)
              (try simp only [hl247000_62] at HO_243000)
              (try simp only [hl247000_62] at HO_252000)
              cases kq with
              | zero => exact absurd HA.out (by simp [laws_FnExactStoreAt.j1])
              | succ kj62 =>
                have H := HA.out
                clear HA
                simp only [laws_FnExactStoreAt.j1] at H
                by_cases c92 : x73_62 = true
                · subst c92
                  have H1 : (some false) = some r := by rw [if_pos rfl] at H; exact H
                  clear H
                  have H := H1
                  clear H1
                  first | exact absurd ((Option.some.inj H).trans HR_.out) (by decide) | exact laws_FnExactStoreAt.e0
                · replace c92 := Bool.eq_false_iff.mpr c92
                  subst c92
                  have H1 : ((laws_markMemory.f kj62 t247 1).bind fun bt260 => ((laws_heldMemory.f kj62 bt260.2 1).bind fun t262 => (if t262 < 0 then (some false) else (if t262 = bt260.1 then ((laws_toMemory.f kj62 l0_0).bind fun t263 => ((impl_StoreAt.f kj62 t263 a1 a2 a3).bind fun bt266 => ((laws_eqMemory.f kj62 bt266.1 t238).bind fun t271 => (if t271 = true then (laws_FnExactStoreAt.j2 kj62 bt260.1 (bt266.2 != t241) bt260.2) else (laws_FnExactStoreAt.j2 kj62 bt260.1 true bt260.2))))) else (some false))))) = some r := by rw [if_neg (show ¬ (false = true) by decide)] at H; exact H
                  clear H
                  have H := H1
                  clear H1
                  replace H := Option.bind_eq_some_iff.mp H
                  obtain ⟨⟨t260, t261⟩, A930, H⟩ := H
                  replace H : ((laws_heldMemory.f kj62 t261 1).bind fun t262 => (if t262 < 0 then (some false) else (if t262 = t260 then ((laws_toMemory.f kj62 l0_0).bind fun t263 => ((impl_StoreAt.f kj62 t263 a1 a2 a3).bind fun bt266 => ((laws_eqMemory.f kj62 bt266.1 t238).bind fun t271 => (if t271 = true then (laws_FnExactStoreAt.j2 kj62 t260 (bt266.2 != t241) t261) else (laws_FnExactStoreAt.j2 kj62 t260 true t261))))) else (some false)))) = some r := H
                  have A93 := Aside0.mk A930
                  clear A930
                  replace H := Option.bind_eq_some_iff.mp H
                  obtain ⟨t262, A940, H⟩ := H
                  replace H : (if t262 < 0 then (some false) else (if t262 = t260 then ((laws_toMemory.f kj62 l0_0).bind fun t263 => ((impl_StoreAt.f kj62 t263 a1 a2 a3).bind fun bt266 => ((laws_eqMemory.f kj62 bt266.1 t238).bind fun t271 => (if t271 = true then (laws_FnExactStoreAt.j2 kj62 t260 (bt266.2 != t241) t261) else (laws_FnExactStoreAt.j2 kj62 t260 true t261))))) else (some false))) = some r := H
                  have A94 := Aside0.mk A940
                  clear A940
                  by_cases c95 : t262 < 0
                  · rw [if_pos c95] at H
                    have c95b0 : decide (t262 < 0) = true := decide_eq_true c95
                    clear c95
                    first | exact absurd ((Option.some.inj H).trans HR_.out) (by decide) | exact laws_FnExactStoreAt.e1
                  · rw [if_neg c95] at H
                    have c95b0 : decide (t262 < 0) = false := decide_eq_false c95
                    clear c95
                    by_cases c103 : t262 = t260
                    · rw [if_pos c103] at H
                      have c103b0 : (t262 == t260) = true := beq_iff_eq.mpr c103
                      have c103b1 : (t262 != t260) = false := bne_eq_false_iff_eq.mpr c103
                      clear c103
                      replace H := Option.bind_eq_some_iff.mp H
                      obtain ⟨t263, A1040, H⟩ := H
                      replace H : ((impl_StoreAt.f kj62 t263 a1 a2 a3).bind fun bt266 => ((laws_eqMemory.f kj62 bt266.1 t238).bind fun t271 => (if t271 = true then (laws_FnExactStoreAt.j2 kj62 t260 (bt266.2 != t241) t261) else (laws_FnExactStoreAt.j2 kj62 t260 true t261)))) = some r := H
                      have A104 := Aside0.mk A1040
                      clear A1040
                      replace H := Option.bind_eq_some_iff.mp H
                      obtain ⟨⟨t266, t269⟩, A1050, H⟩ := H
                      replace H : ((laws_eqMemory.f kj62 t266 t238).bind fun t271 => (if t271 = true then (laws_FnExactStoreAt.j2 kj62 t260 (t269 != t241) t261) else (laws_FnExactStoreAt.j2 kj62 t260 true t261))) = some r := H
                      have A105 := Aside0.mk A1050
                      clear A1050
                      have HC106 := Aside0.mk H
                      clear H
                      have hnb107 := NB251_233.out
                      have hnc107 := NB233_251.out
                      have hnb108 := NB251_242.out
                      have hnc108 := NB242_251.out
                      have hnb109 := NB251_246.out
                      have hnc109 := NB246_251.out
                      have hcz110_0 := cz BK251.out 0 (.slice Ao35 t247.length co35)
                      have hfz110_0 := blk_frozen BK251.out 0
                      go_upto_region 25 with (first | ((with_reducible refine gate_callee (f := 30) rfl ?_); refine goesL_ (some 76) rfl rfl Try.func30 by2 rfl #[.agg #[.slice Ao35 t247.length co35], .int .i64 1] rfl by0 ?_; (with_reducible refine (laws_markMemory.calls kj62 (fun k_ => some k_ = (.slice Ao35 t247.length co35 : Value).ownBlock) (.slice Ao35 t247.length co35) t247 1 t260 t261 w _ ?side1 ?side2 A93.out).mono ?_); (case side1 => repeat (first | (with_reducible first | exact HB.out | apply below_alloc | apply pw_below_drewN | apply below_drew1 | refine below_set ?_ GE233.out | refine below_set ?_ GE242.out | refine below_set ?_ GE246.out | refine below_set ?_ GE251.out) | exact HB.out)); (case side2 => exact Kd.R_tight rfl HO_252000.out); rintro e w111 ⟨rfl, hy0, hb, hkp⟩; refine ⟨_, rfl, ?_⟩; have n0_ := Aside0.mk (Kd.R_mono (ok' := fun k_ => some k_ ≠ (.slice Ao29 t258.length co29 : Value).ownBlock ∧ some k_ ≠ (.slice Ao35 t247.length co35 : Value).ownBlock) (Kd.R_keptB (HO_243000.out) hkp (fun k_ hk_ hs_ => (hk_.2) hs_)) (fun k_ hk_ => ⟨hk_.1.1, hk_.1.2⟩)); have n1_ := Aside0.mk (Kd.R_mono (ok' := fun k_ => some k_ ≠ (.slice Ao23 t238.length co23 : Value).ownBlock ∧ some k_ ≠ (.slice Ao35 t247.length co35 : Value).ownBlock) (Kd.R_keptB (HO_247000.out) hkp (fun k_ hk_ hs_ => (hk_.2) hs_)) (fun k_ hk_ => ⟨hk_.1.1, hk_.1.2⟩)); have n2_ := Aside0.mk (Kd.R_reok rfl hy0 (fun k_ e_ => HO_252000.out.1 k_ e_)); have n3_ := Aside0.mk (blk_kept by6 hkp (fun hs_ => (fun e_ => (Kd.R_ne HO_252000.out BK233.out (by decide)) e_) hs_)); have n4_ := Aside0.mk (blk_kept by12 hkp (fun hs_ => (fun e_ => (Kd.R_ne HO_252000.out BK242.out (by decide)) e_) hs_)); have n5_ := Aside0.mk (blk_kept by13 hkp (fun hs_ => (fun e_ => (Kd.R_ne HO_252000.out BK246.out (by decide)) e_) hs_)); have n6_ := Aside0.mk (blk_kept by14 hkp (fun hs_ => (fun e_ => (Kd.R_ne HO_252000.out BK251.out (by decide)) e_) hs_)); have n7_ := Aside0.mk (hb); clear HO_243000; clear HO_247000; clear HO_252000; clear BK233; clear BK242; clear BK246; clear BK251; clear HB; have HO_243000 := n0_; have HO_247000 := n1_; have HO_252000 := n2_; have BK233 := n3_; have BK242 := n4_; have BK246 := n5_; have BK251 := n6_; have HB := n7_; clear n0_ n1_ n2_ n3_ n4_ n5_ n6_ n7_; (try clear hb); (try clear hkp); (try clear hy0); have hcz112_0 := cz BK251.out 0 (.slice Ao35 t247.length co35); have hfz112_0 := blk_frozen BK251.out 0) | ((with_reducible refine gate_callee (f := 31) rfl ?_); refine goesL_ (some 79) rfl rfl Try.func31 by2 rfl #[.agg #[.slice Ao35 t261.length co35], .int .i64 1] rfl by111 ?_; (with_reducible refine (laws_heldMemory.calls kj62 _ _ t261 1 t262 _ ?side1 ?side2 A94.out).mono ?_); (case side1 => repeat (first | exact (Kd.R_reads' HO_252000.out).2.2 | (with_reducible refine Kd.C_alloc ?_ _) | (with_reducible refine Kd.C_drewN ?_ _) | (with_reducible refine Kd.C_drew ?_))); (case side2 => rw [show t261.length = t247.length from (Kd.R_reads' HO_252000.out).1.symm]; exact (Kd.R_reads' HO_252000.out).2.1); rintro e w113 ⟨rfl, hb⟩; refine ⟨_, rfl, ?_⟩; have n0_ := Aside0.mk (Kd.R_below by15 hb); have n1_ := Aside0.mk (Kd.R_below by16 hb); have n2_ := Aside0.mk (Kd.R_below by17 hb); have n3_ := Aside0.mk (blk_below (g := gb233) (o := .cells #[.slice A0_0 l0_0.length c0_0] 37 (0, 0)) by6 hb); have n4_ := Aside0.mk (blk_below (g := gb242) (o := .cells #[.slice Ao23 t238.length co23] 45 (0, 0)) by12 hb); have n5_ := Aside0.mk (blk_below (g := gb246) (o := .cells #[.slice Ao29 t258.length co29] 45 (0, 0)) by13 hb); have n6_ := Aside0.mk (blk_below (g := gb251) (o := .cells #[.slice Ao35 t247.length co35] 45 (0, 0)) by14 hb); have n7_ := Aside0.mk (below_step by5 hb); clear HO_243000; clear HO_247000; clear HO_252000; clear BK233; clear BK242; clear BK246; clear BK251; clear HB; have HO_243000 := n0_; have HO_247000 := n1_; have HO_252000 := n2_; have BK233 := n3_; have BK242 := n4_; have BK246 := n5_; have BK251 := n6_; have HB := n7_; clear n0_ n1_ n2_ n3_ n4_ n5_ n6_ n7_; (try clear hb); (try clear hb2); (try clear hk); (try clear hi); have hnb114 := NB233_242.out; have hnc114 := NB242_233.out; have hnb115 := NB233_246.out; have hnc115 := NB246_233.out; have hcz116_0 := cz BK233.out 0 (.slice A0_0 l0_0.length c0_0); have hfz116_0 := blk_frozen BK233.out 0) | ((with_reducible refine gate_callee (f := 27) rfl ?_); refine goesL_ (some 87) rfl rfl Try.func27 by2 rfl #[.agg #[.slice A0_0 l0_0.length c0_0]] rfl by0 ?_; (with_reducible refine (laws_toMemory.calls kj62 _ _ l0_0 t263 _ ?side1 ?side2 A104.out).mono ?_); (case side1 => repeat (first | exact (Kd.C_below HR0_0.out HB.out) | (with_reducible refine Kd.C_alloc ?_ _) | (with_reducible refine Kd.C_drewN ?_ _) | (with_reducible refine Kd.C_drew ?_))); (case side2 => exact HC0_0.out); rintro e w117 ⟨v264, rfl, ho0, hb⟩; refine ⟨_, rfl, ?_⟩; have n0_ := Aside0.mk (Kd.R_elder' by15 (Kd.R_base ho0) hb); have n1_ := Aside0.mk (Kd.R_elder' by16 (Kd.R_base ho0) hb); have n2_ := Aside0.mk (Kd.R_elder' by17 (Kd.R_base ho0) hb); have n3_ := Aside0.mk (Kd.R_lower (Kd.R_new' (Kd.R_new' (Kd.R_new' ho0 (Kd.R_lt by15)) (Kd.R_lt by16)) (Kd.R_lt by17)) (below_size by5)); have n4_ := Aside0.mk (blk_below (g := gb233) (o := .cells #[.slice A0_0 l0_0.length c0_0] 37 (0, 0)) by6 hb); have n5_ := Aside0.mk (blk_below (g := gb242) (o := .cells #[.slice Ao23 t238.length co23] 45 (0, 0)) by12 hb); have n6_ := Aside0.mk (blk_below (g := gb246) (o := .cells #[.slice Ao29 t258.length co29] 45 (0, 0)) by13 hb); have n7_ := Aside0.mk (blk_below (g := gb251) (o := .cells #[.slice Ao35 t247.length co35] 45 (0, 0)) by14 hb); have n8_ := Aside0.mk (below_step by5 hb); clear HO_243000; clear HO_247000; clear HO_252000; clear BK233; clear BK242; clear BK246; clear BK251; clear HB; have HO_243000 := n0_; have HO_247000 := n1_; have HO_252000 := n2_; have HO265 := n3_; have BK233 := n4_; have BK242 := n5_; have BK246 := n6_; have BK251 := n7_; have HB := n8_; clear n0_ n1_ n2_ n3_ n4_ n5_ n6_ n7_ n8_; (try clear hb); (try clear hb2); (try clear hk); (try clear hi); (try clear ho0); obtain ⟨Ao118, co118, eo118⟩ := Kd.R_slice HO265.out; subst eo118) | ((with_reducible refine gate_callee (f := 28) rfl ?_); refine goesL_ (some 91) rfl rfl Try.func28 by2 rfl #[.agg #[.slice Ao118 t263.length co118], .int .i64 a1, .int .i64 a2, .int .i64 a3] rfl by0 ?_; (with_reducible refine (impl_StoreAt.calls kj62 _ _ t263 a1 a2 a3 t266 t269 _ ?side1 ?side2 A105.out).mono ?_); (case side1 => repeat (first | exact (Kd.R_reads' HO265.out).2.2 | (with_reducible refine Kd.C_alloc ?_ _) | (with_reducible refine Kd.C_drewN ?_ _) | (with_reducible refine Kd.C_drew ?_))); (case side2 => exact (Kd.R_reads' HO265.out).2.1); rintro e w119 ⟨v267, rfl, ho0, hb⟩; refine ⟨_, rfl, ?_⟩; have n0_ := Aside0.mk (Kd.R_elder' by15 (Kd.R_base ho0) hb); have n1_ := Aside0.mk (Kd.R_elder' by16 (Kd.R_base ho0) hb); have n2_ := Aside0.mk (Kd.R_elder' by17 (Kd.R_base ho0) hb); have n3_ := Aside0.mk (Kd.R_elder' by130 (Kd.R_base ho0) hb); have n4_ := Aside0.mk (Kd.R_lower (Kd.R_new' (Kd.R_new' (Kd.R_new' (Kd.R_new' ho0 (Kd.R_lt by15)) (Kd.R_lt by16)) (Kd.R_lt by17)) (Kd.R_lt by130)) (below_size by5)); have n5_ := Aside0.mk (blk_below (g := gb233) (o := .cells #[.slice A0_0 l0_0.length c0_0] 37 (0, 0)) by6 hb); have n6_ := Aside0.mk (blk_below (g := gb242) (o := .cells #[.slice Ao23 t238.length co23] 45 (0, 0)) by12 hb); have n7_ := Aside0.mk (blk_below (g := gb246) (o := .cells #[.slice Ao29 t258.length co29] 45 (0, 0)) by13 hb); have n8_ := Aside0.mk (blk_below (g := gb251) (o := .cells #[.slice Ao35 t247.length co35] 45 (0, 0)) by14 hb); have n9_ := Aside0.mk (below_step by5 hb); clear HO_243000; clear HO_247000; clear HO_252000; clear HO265; clear BK233; clear BK242; clear BK246; clear BK251; clear HB; have HO_243000 := n0_; have HO_247000 := n1_; have HO_252000 := n2_; have HO265 := n3_; have HO268 := n4_; have BK233 := n5_; have BK242 := n6_; have BK246 := n7_; have BK251 := n8_; have HB := n9_; clear n0_ n1_ n2_ n3_ n4_ n5_ n6_ n7_ n8_ n9_; (try clear hb); (try clear hb2); (try clear hk); (try clear hi); (try clear ho0)) | ((with_reducible refine gate_dst (N := 18) rfl ?_); refine box_event ?hg (N := 18) ?hd (cs := #[.slice none 0 0]) (t := 45) ?hr ?_; (case hd => rfl); (case hg => rfl); (case hr => first | (go_simp; done) | (go_simp; rfl)); intro gb270 hg w120 hbox hb; have n0_ := Aside0.mk (Kd.R_below by15 hb); have n1_ := Aside0.mk (Kd.R_below by16 hb); have n2_ := Aside0.mk (Kd.R_below by17 hb); have n3_ := Aside0.mk (Kd.R_below by130 hb); have n4_ := Aside0.mk (Kd.R_below (by (with_reducible repeat (first | apply Kd.R_alloc | apply Kd.R_drewN | apply Kd.R_drew)); exact HO268.out) hb); have n5_ := Aside0.mk (blk_below (g := gb233) (o := .cells #[.slice A0_0 l0_0.length c0_0] 37 (0, 0)) by6 hb); have n6_ := Aside0.mk (blk_below (g := gb242) (o := .cells #[.slice Ao23 t238.length co23] 45 (0, 0)) by12 hb); have n7_ := Aside0.mk (blk_below (g := gb246) (o := .cells #[.slice Ao29 t258.length co29] 45 (0, 0)) by13 hb); have n8_ := Aside0.mk (blk_below (g := gb251) (o := .cells #[.slice Ao35 t247.length co35] 45 (0, 0)) by14 hb); have n9_ := Aside0.mk (below_step by5 hb); have n10_ := Aside0.mk (hbox); have n11_ := Aside0.mk ((by71 : w.heap.size ≤ gb270)); have n12_ := Aside0.mk ((by71 : w.heap.size ≤ gb270)); have n13_ := Aside0.mk ((by42 : gb233 ≠ gb270)); have n14_ := Aside0.mk ((by43 : gb270 ≠ gb233)); have n15_ := Aside0.mk ((by64 : gb242 ≠ gb270)); have n16_ := Aside0.mk ((by65 : gb270 ≠ gb242)); have n17_ := Aside0.mk ((by rw [hg]; exact Nat.ne_of_lt (blk_lt (g := gb246) (o := .cells #[.slice Ao29 t258.length co29] 45 (0, 0)) by13) : gb246 ≠ gb270)); have n18_ := Aside0.mk ((by rw [hg]; exact Nat.ne_of_gt (blk_lt (g := gb246) (o := .cells #[.slice Ao29 t258.length co29] 45 (0, 0)) by13) : gb270 ≠ gb246)); have n19_ := Aside0.mk ((by rw [hg]; exact Nat.ne_of_lt (blk_lt (g := gb251) (o := .cells #[.slice Ao35 t247.length co35] 45 (0, 0)) by14) : gb251 ≠ gb270)); have n20_ := Aside0.mk ((by rw [hg]; exact Nat.ne_of_gt (blk_lt (g := gb251) (o := .cells #[.slice Ao35 t247.length co35] 45 (0, 0)) by14) : gb270 ≠ gb251)); clear HO_243000; clear HO_247000; clear HO_252000; clear HO265; clear HO268; clear BK233; clear BK242; clear BK246; clear BK251; clear HB; have HO_243000 := n0_; have HO_247000 := n1_; have HO_252000 := n2_; have HO265 := n3_; have HO268 := n4_; have BK233 := n5_; have BK242 := n6_; have BK246 := n7_; have BK251 := n8_; have HB := n9_; have BK270 := n10_; have GW270 := n11_; have GE270 := n12_; have NB233_270 := n13_; have NB270_233 := n14_; have NB242_270 := n15_; have NB270_242 := n16_; have NB246_270 := n17_; have NB270_246 := n18_; have NB251_270 := n19_; have NB270_251 := n20_; clear n0_ n1_ n2_ n3_ n4_ n5_ n6_ n7_ n8_ n9_ n10_ n11_ n12_ n13_ n14_ n15_ n16_ n17_ n18_ n19_ n20_; clear hb hbox hg; obtain ⟨Ao121, co121, eo121⟩ := Kd.R_slice HO268.out; subst eo121; have hnb122 := NB270_233.out; have hnc122 := NB233_270.out; have hnb123 := NB270_242.out; have hnc123 := NB242_270.out; have hnb124 := NB270_246.out; have hnc124 := NB246_270.out; have hnb125 := NB270_251.out; have hnc125 := NB251_270.out; have hcz126_0 := cz BK270.out 0 (.slice none 0 0); have hfz126_0 := blk_frozen BK270.out 0))
                      (try simp only [Act.put, List.setIfInBounds_toArray, List.set_cons_zero, List.set_cons_succ])
                      go_cut [102] (fun v102 wc => ∃ (kq : Nat) (x102_105 : Bool), v102 = .bool x102_105 ∧ Aside0 (laws_FnExactStoreAt.j2 kq t260 x102_105 t261 = some r) ∧ Aside0 (kq ≤ kj62) ∧ Aside0 (Kd.R k153 153 wc w.heap.size (fun k_ => some k_ ≠ ((.slice Ao29 t258.length co29) : Value).ownBlock ∧ some k_ ≠ ((.slice Ao35 t247.length co35) : Value).ownBlock ∧ some k_ ≠ ((.slice Ao121 t266.length co121) : Value).ownBlock) (.slice Ao23 t238.length co23) t238) ∧ Aside0 (Kd.R k153 153 wc w.heap.size (fun k_ => some k_ ≠ ((.slice Ao23 t238.length co23) : Value).ownBlock ∧ some k_ ≠ ((.slice Ao35 t247.length co35) : Value).ownBlock ∧ some k_ ≠ ((.slice Ao121 t266.length co121) : Value).ownBlock) (.slice Ao29 t258.length co29) t258) ∧ Aside0 (Kd.R k153 153 wc w.heap.size (fun k_ => some k_ ≠ ((.slice Ao23 t238.length co23) : Value).ownBlock ∧ some k_ ≠ ((.slice Ao29 t258.length co29) : Value).ownBlock ∧ some k_ ≠ ((.slice Ao121 t266.length co121) : Value).ownBlock) (.slice Ao35 t247.length co35) t261) ∧ Aside0 (Kd.R k153 153 wc w.heap.size (fun k_ => some k_ ≠ ((.slice Ao23 t238.length co23) : Value).ownBlock ∧ some k_ ≠ ((.slice Ao29 t258.length co29) : Value).ownBlock ∧ some k_ ≠ ((.slice Ao35 t247.length co35) : Value).ownBlock) (.slice Ao121 t266.length co121) t266) ∧ Aside0 (wc.heap[gb233]? = some (.cells #[(.slice A0_0 l0_0.length c0_0)] 37 (0, 0))) ∧ Aside0 (wc.heap[gb242]? = some (.cells #[(.slice Ao23 t238.length co23)] 45 (0, 0))) ∧ Aside0 (wc.heap[gb246]? = some (.cells #[(.slice Ao29 t258.length co29)] 45 (0, 0))) ∧ Aside0 (wc.heap[gb251]? = some (.cells #[(.slice Ao35 t247.length co35)] 45 (0, 0))) ∧ Aside0 (wc.heap[gb270]? = some (.cells #[(.slice Ao121 t266.length co121)] 45 (0, 0))) ∧ Aside0 (Below w.heap.size w wc))
                      case first =>
                        have H := HC106.out
                        clear HC106
                        replace H := Option.bind_eq_some_iff.mp H
                        obtain ⟨t271, A1270, H⟩ := H
                        replace H : (if t271 = true then (laws_FnExactStoreAt.j2 kj62 t260 (t269 != t241) t261) else (laws_FnExactStoreAt.j2 kj62 t260 true t261)) = some r := H
                        have A127 := Aside0.mk A1270
                        clear A1270
                        by_cases c128 : t271 = true
                        · subst c128
                          have H1 : (laws_FnExactStoreAt.j2 kj62 t260 (t269 != t241) t261) = some r := by rw [if_pos rfl] at H; exact H
                          clear H
                          have H := H1
                          clear H1
                          have H' := Aside0.mk H
                          clear H
                          have hnb129 := NB270_233.out
                          have hnc129 := NB233_270.out
                          have hnb130 := NB270_242.out
                          have hnc130 := NB242_270.out
                          have hnb131 := NB270_246.out
                          have hnc131 := NB246_270.out
                          have hnb132 := NB270_251.out
                          have hnc132 := NB251_270.out
                          have hcz133_0 := cz BK270.out 0 (.slice none 0 0)
                          have hfz133_0 := blk_frozen BK270.out 0
                          have hnb134 := NB242_233.out
                          have hnc134 := NB233_242.out
                          have hnb135 := NB242_246.out
                          have hnc135 := NB246_242.out
                          have hnb136 := NB242_251.out
                          have hnc136 := NB251_242.out
                          have hcz137_0 := cz BK242.out 0 (.slice Ao23 t238.length co23)
                          have hfz137_0 := blk_frozen BK242.out 0
                          go_wp2_with (first | ((with_reducible refine gate_callee (f := 29) rfl ?_); refine goesL_ (some 96) rfl rfl Try.func29 by2 rfl #[.agg #[.slice Ao121 t266.length co121], .agg #[.slice Ao23 t238.length co23]] rfl by0 ?_; (with_reducible refine (laws_eqMemory.calls kj62 _ _ t266 _ _ t238 true _ ?side1 ?side2 ?side3 ?side4 A127.out).mono ?_); (case side1 => refine (Kd.R_reads' (e := 153) (base := w.heap.size) (ok := fun k_ => ((((True ∧ some k_ ≠ (.slice Ao23 t238.length co23 : Value).ownBlock) ∧ some k_ ≠ (.slice Ao29 t258.length co29 : Value).ownBlock) ∧ some k_ ≠ (.slice Ao35 t247.length co35 : Value).ownBlock) ∧ some k_ ≠ (.slice Ao118 t263.length co118 : Value).ownBlock)) (n := t266.length) (c := co121) ?_).2.2; exact by35); (case side2 => exact (Kd.R_reads' HO268.out).2.1); (case side3 => refine (Kd.R_reads' (e := 153) (base := w.heap.size) (ok := fun k_ => (((some k_ ≠ (.slice Ao29 t258.length co29 : Value).ownBlock ∧ some k_ ≠ (.slice Ao35 t247.length co35 : Value).ownBlock) ∧ some k_ ≠ (.slice Ao118 t263.length co118 : Value).ownBlock) ∧ some k_ ≠ (.slice Ao121 t266.length co121 : Value).ownBlock)) (n := t238.length) (c := co23) ?_).2.2; exact by34); (case side4 => exact (Kd.R_reads' HO_243000.out).2.1); rintro e w138 ⟨rfl, hb⟩; refine ⟨_, rfl, ?_⟩; have n0_ := Aside0.mk (Kd.R_below by34 hb); have n1_ := Aside0.mk (Kd.R_below by77 hb); have n2_ := Aside0.mk (Kd.R_below by78 hb); have n3_ := Aside0.mk (Kd.R_below by79 hb); have n4_ := Aside0.mk (Kd.R_below by35 hb); have n5_ := Aside0.mk (blk_below (g := gb233) (o := .cells #[.slice A0_0 l0_0.length c0_0] 37 (0, 0)) by87 hb); have n6_ := Aside0.mk (blk_below (g := gb242) (o := .cells #[.slice Ao23 t238.length co23] 45 (0, 0)) by88 hb); have n7_ := Aside0.mk (blk_below (g := gb246) (o := .cells #[.slice Ao29 t258.length co29] 45 (0, 0)) by89 hb); have n8_ := Aside0.mk (blk_below (g := gb251) (o := .cells #[.slice Ao35 t247.length co35] 45 (0, 0)) by90 hb); have n9_ := Aside0.mk (blk_below (g := gb270) (o := .cells #[.slice Ao121 t266.length co121] 45 (0, 0)) by74 hb); have n10_ := Aside0.mk (below_step by44 hb); clear HO_243000; clear HO_247000; clear HO_252000; clear HO265; clear HO268; clear BK233; clear BK242; clear BK246; clear BK251; clear BK270; clear HB; have HO_243000 := n0_; have HO_247000 := n1_; have HO_252000 := n2_; have HO265 := n3_; have HO268 := n4_; have BK233 := n5_; have BK242 := n6_; have BK246 := n7_; have BK251 := n8_; have BK270 := n9_; have HB := n10_; clear n0_ n1_ n2_ n3_ n4_ n5_ n6_ n7_ n8_ n9_ n10_; (try clear hb); (try clear hb2); (try clear hk); (try clear hi)))
                          go_meet
                          case rel => exact ⟨_, ((t269 != t241)), by7, H', ⟨by have := HJ13.out; have := HJ62.out; first | omega | exact Nat.le_refl _⟩, ⟨by (try simp only [hl247000_62]); (with_reducible repeat (first | apply Kd.R_alloc | apply Kd.R_drewN | apply Kd.R_drew)); exact Kd.R_mono HO_243000.out (fun _ hk => ⟨hk.1.1.1, ⟨hk.1.1.2, hk.2⟩⟩)⟩, ⟨by (try simp only [hl247000_62]); (with_reducible repeat (first | apply Kd.R_alloc | apply Kd.R_drewN | apply Kd.R_drew)); exact Kd.R_mono HO_247000.out (fun _ hk => ⟨hk.1.1.1, ⟨hk.1.1.2, hk.2⟩⟩)⟩, ⟨by (try simp only [hl247000_62]); (with_reducible repeat (first | apply Kd.R_alloc | apply Kd.R_drewN | apply Kd.R_drew)); exact Kd.R_mono HO_252000.out (fun _ hk => ⟨hk.1.1.1, ⟨hk.1.1.2, hk.2⟩⟩)⟩, ⟨by (try simp only [hl247000_62]); (with_reducible repeat (first | apply Kd.R_alloc | apply Kd.R_drewN | apply Kd.R_drew)); exact Kd.R_mono HO268.out (fun _ hk => ⟨hk.1.1.1.2, ⟨hk.1.1.2, hk.1.2⟩⟩)⟩, ⟨by (try simp only [hl247000_62]); (with_reducible repeat (first | refine blk_drewN ?_ _ | refine blk_drew ?_ | refine blk_alloc ?_ _)); exact BK233.out⟩, ⟨by (try simp only [hl247000_62]); (with_reducible repeat (first | refine blk_drewN ?_ _ | refine blk_drew ?_ | refine blk_alloc ?_ _)); exact BK242.out⟩, ⟨by (try simp only [hl247000_62]); (with_reducible repeat (first | refine blk_drewN ?_ _ | refine blk_drew ?_ | refine blk_alloc ?_ _)); exact BK246.out⟩, ⟨by (try simp only [hl247000_62]); (with_reducible repeat (first | refine blk_drewN ?_ _ | refine blk_drew ?_ | refine blk_alloc ?_ _)); exact BK251.out⟩, ⟨by (try simp only [hl247000_62]); (with_reducible repeat (first | refine blk_drewN ?_ _ | refine blk_drew ?_ | refine blk_alloc ?_ _)); exact BK270.out⟩, ⟨by repeat (first | (with_reducible first | exact HB.out | apply below_alloc | apply pw_below_drewN | apply below_drew1 | refine below_set ?_ GE233.out | refine below_set ?_ GE242.out | refine below_set ?_ GE246.out | refine below_set ?_ GE251.out | refine below_set ?_ GE270.out) | exact HB.out)⟩⟩
                        · replace c128 := Bool.eq_false_iff.mpr c128
                          subst c128
                          have H1 : (laws_FnExactStoreAt.j2 kj62 t260 true t261) = some r := by rw [if_neg (show ¬ (false = true) by decide)] at H; exact H
                          clear H
                          have H := H1
                          clear H1
                          have H' := Aside0.mk H
                          clear H
                          have hnb139 := NB270_233.out
                          have hnc139 := NB233_270.out
                          have hnb140 := NB270_242.out
                          have hnc140 := NB242_270.out
                          have hnb141 := NB270_246.out
                          have hnc141 := NB246_270.out
                          have hnb142 := NB270_251.out
                          have hnc142 := NB251_270.out
                          have hcz143_0 := cz BK270.out 0 (.slice none 0 0)
                          have hfz143_0 := blk_frozen BK270.out 0
                          have hnb144 := NB242_233.out
                          have hnc144 := NB233_242.out
                          have hnb145 := NB242_246.out
                          have hnc145 := NB246_242.out
                          have hnb146 := NB242_251.out
                          have hnc146 := NB251_242.out
                          have hcz147_0 := cz BK242.out 0 (.slice Ao23 t238.length co23)
                          have hfz147_0 := blk_frozen BK242.out 0
                          go_wp2_with (first | ((with_reducible refine gate_callee (f := 29) rfl ?_); refine goesL_ (some 96) rfl rfl Try.func29 by2 rfl #[.agg #[.slice Ao121 t266.length co121], .agg #[.slice Ao23 t238.length co23]] rfl by0 ?_; (with_reducible refine (laws_eqMemory.calls kj62 _ _ t266 _ _ t238 false _ ?side1 ?side2 ?side3 ?side4 A127.out).mono ?_); (case side1 => refine (Kd.R_reads' (e := 153) (base := w.heap.size) (ok := fun k_ => ((((True ∧ some k_ ≠ (.slice Ao23 t238.length co23 : Value).ownBlock) ∧ some k_ ≠ (.slice Ao29 t258.length co29 : Value).ownBlock) ∧ some k_ ≠ (.slice Ao35 t247.length co35 : Value).ownBlock) ∧ some k_ ≠ (.slice Ao118 t263.length co118 : Value).ownBlock)) (n := t266.length) (c := co121) ?_).2.2; exact by35); (case side2 => exact (Kd.R_reads' HO268.out).2.1); (case side3 => refine (Kd.R_reads' (e := 153) (base := w.heap.size) (ok := fun k_ => (((some k_ ≠ (.slice Ao29 t258.length co29 : Value).ownBlock ∧ some k_ ≠ (.slice Ao35 t247.length co35 : Value).ownBlock) ∧ some k_ ≠ (.slice Ao118 t263.length co118 : Value).ownBlock) ∧ some k_ ≠ (.slice Ao121 t266.length co121 : Value).ownBlock)) (n := t238.length) (c := co23) ?_).2.2; exact by34); (case side4 => exact (Kd.R_reads' HO_243000.out).2.1); rintro e w148 ⟨rfl, hb⟩; refine ⟨_, rfl, ?_⟩; have n0_ := Aside0.mk (Kd.R_below by34 hb); have n1_ := Aside0.mk (Kd.R_below by77 hb); have n2_ := Aside0.mk (Kd.R_below by78 hb); have n3_ := Aside0.mk (Kd.R_below by79 hb); have n4_ := Aside0.mk (Kd.R_below by35 hb); have n5_ := Aside0.mk (blk_below (g := gb233) (o := .cells #[.slice A0_0 l0_0.length c0_0] 37 (0, 0)) by87 hb); have n6_ := Aside0.mk (blk_below (g := gb242) (o := .cells #[.slice Ao23 t238.length co23] 45 (0, 0)) by88 hb); have n7_ := Aside0.mk (blk_below (g := gb246) (o := .cells #[.slice Ao29 t258.length co29] 45 (0, 0)) by89 hb); have n8_ := Aside0.mk (blk_below (g := gb251) (o := .cells #[.slice Ao35 t247.length co35] 45 (0, 0)) by90 hb); have n9_ := Aside0.mk (blk_below (g := gb270) (o := .cells #[.slice Ao121 t266.length co121] 45 (0, 0)) by74 hb); have n10_ := Aside0.mk (below_step by44 hb); clear HO_243000; clear HO_247000; clear HO_252000; clear HO265; clear HO268; clear BK233; clear BK242; clear BK246; clear BK251; clear BK270; clear HB; have HO_243000 := n0_; have HO_247000 := n1_; have HO_252000 := n2_; have HO265 := n3_; have HO268 := n4_; have BK233 := n5_; have BK242 := n6_; have BK246 := n7_; have BK251 := n8_; have BK270 := n9_; have HB := n10_; clear n0_ n1_ n2_ n3_ n4_ n5_ n6_ n7_ n8_ n9_ n10_; (try clear hb); (try clear hb2); (try clear hk); (try clear hi)))
                          go_meet
                          case rel => exact ⟨_, (true), by7, H', ⟨by have := HJ13.out; have := HJ62.out; first | omega | exact Nat.le_refl _⟩, ⟨by (try simp only [hl247000_62]); (with_reducible repeat (first | apply Kd.R_alloc | apply Kd.R_drewN | apply Kd.R_drew)); exact Kd.R_mono HO_243000.out (fun _ hk => ⟨hk.1.1.1, ⟨hk.1.1.2, hk.2⟩⟩)⟩, ⟨by (try simp only [hl247000_62]); (with_reducible repeat (first | apply Kd.R_alloc | apply Kd.R_drewN | apply Kd.R_drew)); exact Kd.R_mono HO_247000.out (fun _ hk => ⟨hk.1.1.1, ⟨hk.1.1.2, hk.2⟩⟩)⟩, ⟨by (try simp only [hl247000_62]); (with_reducible repeat (first | apply Kd.R_alloc | apply Kd.R_drewN | apply Kd.R_drew)); exact Kd.R_mono HO_252000.out (fun _ hk => ⟨hk.1.1.1, ⟨hk.1.1.2, hk.2⟩⟩)⟩, ⟨by (try simp only [hl247000_62]); (with_reducible repeat (first | apply Kd.R_alloc | apply Kd.R_drewN | apply Kd.R_drew)); exact Kd.R_mono HO268.out (fun _ hk => ⟨hk.1.1.1.2, ⟨hk.1.1.2, hk.1.2⟩⟩)⟩, ⟨by (try simp only [hl247000_62]); (with_reducible repeat (first | refine blk_drewN ?_ _ | refine blk_drew ?_ | refine blk_alloc ?_ _)); exact BK233.out⟩, ⟨by (try simp only [hl247000_62]); (with_reducible repeat (first | refine blk_drewN ?_ _ | refine blk_drew ?_ | refine blk_alloc ?_ _)); exact BK242.out⟩, ⟨by (try simp only [hl247000_62]); (with_reducible repeat (first | refine blk_drewN ?_ _ | refine blk_drew ?_ | refine blk_alloc ?_ _)); exact BK246.out⟩, ⟨by (try simp only [hl247000_62]); (with_reducible repeat (first | refine blk_drewN ?_ _ | refine blk_drew ?_ | refine blk_alloc ?_ _)); exact BK251.out⟩, ⟨by (try simp only [hl247000_62]); (with_reducible repeat (first | refine blk_drewN ?_ _ | refine blk_drew ?_ | refine blk_alloc ?_ _)); exact BK270.out⟩, ⟨by repeat (first | (with_reducible first | exact HB.out | apply below_alloc | apply pw_below_drewN | apply below_drew1 | refine below_set ?_ GE233.out | refine below_set ?_ GE242.out | refine below_set ?_ GE246.out | refine below_set ?_ GE251.out | refine below_set ?_ GE270.out) | exact HB.out)⟩⟩
                      case rest =>
                        clear HC106
                        (try clear c6); (try clear c6b0); (try clear c41); (try clear c58); (try clear c61); (try clear c73); (try clear c73b0); (try clear c73b1); (try clear c75); (try clear c92); (try clear c95); (try clear c95b0); (try clear c103); (try clear c103b0); (try clear c103b1); (try clear c128); (try clear hcz101_0); (try clear hcz110_0); (try clear hcz112_0); (try clear hcz116_0); (try clear hcz126_0); (try clear hcz133_0); (try clear hcz137_0); (try clear hcz143_0); (try clear hcz147_0); (try clear hcz16_0); (try clear hcz18_0); (try clear hcz25_0); (try clear hcz26_0); (try clear hcz32_0); (try clear hcz39_0); (try clear hcz45_0); (try clear hcz48_0); (try clear hcz53_0); (try clear hcz56_0); (try clear hcz71_0); (try clear hcz79_0); (try clear hcz82_0); (try clear hcz87_0); (try clear hcz8_0); (try clear hcz90_0); (try clear hcz99_0); (try clear hfz101_0); (try clear hfz110_0); (try clear hfz112_0); (try clear hfz116_0); (try clear hfz126_0); (try clear hfz133_0); (try clear hfz137_0); (try clear hfz143_0); (try clear hfz147_0); (try clear hfz16_0); (try clear hfz18_0); (try clear hfz25_0); (try clear hfz26_0); (try clear hfz32_0); (try clear hfz39_0); (try clear hfz45_0); (try clear hfz48_0); (try clear hfz53_0); (try clear hfz56_0); (try clear hfz71_0); (try clear hfz79_0); (try clear hfz82_0); (try clear hfz87_0); (try clear hfz8_0); (try clear hfz90_0); (try clear hfz99_0)
                        obtain ⟨kq, x102_105, rfl, HA, HJ105, HO_243000, HO_247000, HO_252000, HO_271000, BK233, BK242, BK246, BK251, BK270, HB⟩ := hcut
                        have hl252000_105 := (Kd.R_reads' HO_252000.out).1
                        rw [hl252000_105] at HO_252000
                        (try simp only [hl252000_105])
                        (try simp only [hl252000_105] at BK233)
                        (try simp only [hl252000_105] at BK242)
                        (try simp only [hl252000_105] at BK246)
                        (try simp only [hl252000_105] at BK251)
                        (try simp only [hl252000_105] at BK270)
                        (try simp only [hl252000_105] at HO_243000)
                        (try simp only [hl252000_105] at HO_247000)
                        (try simp only [hl252000_105] at HO_271000)
                        cases kq with
                        | zero => exact absurd HA.out (by simp [laws_FnExactStoreAt.j2])
                        | succ kj105 =>
                          have H := HA.out
                          clear HA
                          simp only [laws_FnExactStoreAt.j2] at H
                          by_cases c149 : x102_105 = true
                          · subst c149
                            have H1 : (some false) = some r := by rw [if_pos rfl] at H; exact H
                            clear H
                            have H := H1
                            clear H1
                            first
                              | exact absurd ((Option.some.inj H).trans HR_.out) (by decide)
                              | (obtain rfl := Option.some.inj H
                                 go_wp2
                                 go_ret
                                 exact ⟨by first | rfl | (simp [errW_none, errW_some] <;> rfl) | (simp [*, errW_none, errW_some] <;> rfl), by repeat (first | (with_reducible first | exact HB.out | apply below_alloc | apply pw_below_drewN | apply below_drew1 | refine below_set ?_ GE233.out | refine below_set ?_ GE242.out | refine below_set ?_ GE246.out | refine below_set ?_ GE251.out | refine below_set ?_ GE270.out) | exact HB.out)⟩)
                          · replace c149 := Bool.eq_false_iff.mpr c149
                            subst c149
                            have H1 : ((laws_heldMemory.f kj105 t261 1).bind fun t272 => (if t272 < 0 then (some false) else (if t272 = t260 then (some true) else (some false)))) = some r := by rw [if_neg (show ¬ (false = true) by decide)] at H; exact H
                            clear H
                            have H := H1
                            clear H1
                            replace H := Option.bind_eq_some_iff.mp H
                            obtain ⟨t272, A1500, H⟩ := H
                            replace H : (if t272 < 0 then (some false) else (if t272 = t260 then (some true) else (some false))) = some r := H
                            have A150 := Aside0.mk A1500
                            clear A1500
                            by_cases c151 : t272 < 0
                            · rw [if_pos c151] at H
                              have c151b0 : decide (t272 < 0) = true := decide_eq_true c151
                              clear c151
                              first | exact absurd ((Option.some.inj H).trans HR_.out) (by decide) | exact laws_FnExactStoreAt.e2
                            · rw [if_neg c151] at H
                              have c151b0 : decide (t272 < 0) = false := decide_eq_false c151
                              clear c151
                              by_cases c158 : t272 = t260
                              · rw [if_pos c158] at H
                                have c158b0 : (t272 == t260) = true := beq_iff_eq.mpr c158
                                have c158b1 : (t272 != t260) = false := bne_eq_false_iff_eq.mpr c158
                                clear c158
                                first | exact absurd ((Option.some.inj H).trans HR_.out) (by decide) | exact laws_FnExactStoreAt.e2
                              · rw [if_neg c158] at H
                                have c158b0 : (t272 == t260) = false := beq_eq_false_iff_ne.mpr c158
                                have c158b1 : (t272 != t260) = true := bne_iff_ne.mpr c158
                                first | exact absurd ((Option.some.inj H).trans HR_.out) (by decide) | exact laws_FnExactStoreAt.e2
                    · rw [if_neg c103] at H
                      have c103b0 : (t262 == t260) = false := beq_eq_false_iff_ne.mpr c103
                      have c103b1 : (t262 != t260) = true := bne_iff_ne.mpr c103
                      first | exact absurd ((Option.some.inj H).trans HR_.out) (by decide) | exact laws_FnExactStoreAt.e1
          · replace c61 := Bool.eq_false_iff.mpr c61
            subst c61
            have H1 : (some false) = some r := by rw [if_neg (show ¬ (false = true) by decide)] at H; exact H
            clear H
            have H := H1
            clear H1
            first
              | exact absurd ((Option.some.inj H).trans HR_.out) (by decide)
              | (obtain rfl := Option.some.inj H
                 try go_wp2
                 have n0_ := Aside0.mk (Kd.R_drew HO_243000.out)
                 have n1_ := Aside0.mk (Kd.R_drew HO_247000.out)
                 have n2_ := Aside0.mk (Kd.R_drew HO_252000.out)
                 have n3_ := Aside0.mk (blk_drew BK233.out)
                 have n4_ := Aside0.mk (blk_drew BK242.out)
                 have n5_ := Aside0.mk (blk_drew BK246.out)
                 have n6_ := Aside0.mk (blk_drew BK251.out)
                 have n7_ := Aside0.mk (below_drew1 HB.out)
                 clear HO_243000
                 clear HO_247000
                 clear HO_252000
                 clear BK233
                 clear BK242
                 clear BK246
                 clear BK251
                 clear HB
                 have HO_243000 := n0_
                 have HO_247000 := n1_
                 have HO_252000 := n2_
                 have BK233 := n3_
                 have BK242 := n4_
                 have BK246 := n5_
                 have BK251 := n6_
                 have HB := n7_
                 clear n0_ n1_ n2_ n3_ n4_ n5_ n6_ n7_
                 refine start_ (n := 5) (S := fun w' => w'.cell? ⟨gb246, 0, none⟩ = some (.slice Ao29 t243.length co29) ∧ w'.cell? ⟨gb233, 0, none⟩ = some (.slice A0_0 l0_0.length c0_0)) (ds := []) #[false, false, false, false, false] by2 rfl rfl ⟨(blk_cell BK246.out 0).trans rfl, (blk_cell BK233.out 0).trans rfl⟩ (fun hHeld => ?_)
                 generalize wc.drew = w178 at HO_243000 HO_247000 HO_252000 BK233 BK242 BK246 BK251 HB hHeld ⊢
                 refine take_ (i := 0) (N := some 53) (v := ?_) (a' := ?_) #[true, false, false, false, false] rfl rfl by2 (fun _ _ _ h => h) (Or.inl ⟨by rfl, ?_⟩) hHeld ?_ ?_
                 rotate_left
                 · rintro w' ⟨s0, s1⟩
                   go_simp
                   with_reducible rfl
                 rotate_left
                 · simp only [Act.put, List.setIfInBounds_toArray, List.set_cons_zero, List.set_cons_succ, i64_w, i32_w]
                   rfl
                 refine take_ (i := 1) (N := some 54) (v := ?_) (a' := ?_) #[true, true, false, false, false] rfl rfl by2 (fun _ _ _ h => h) (Or.inl ⟨by rfl, ?_⟩) hHeld ?_ ?_
                 rotate_left
                 · rintro w' ⟨s0, s1⟩
                   go_simp
                   with_reducible rfl
                 rotate_left
                 · simp only [Act.put, List.setIfInBounds_toArray, List.set_cons_zero, List.set_cons_succ, i64_w, i32_w]
                   rfl
                 refine one_ (i := 2) (N := some 55) #[true, true, true, false, false] rfl rfl by2 (by decide) (fun K hK => ?_)
                 refine goes_ Try.func27 by2 rfl #[.agg #[.slice A0_0 l0_0.length c0_0]] (by rfl) rfl rfl by0 ?_
                 with_reducible refine (laws_toMemory.calls kj13 _ _ l0_0 t253 _ ?side1 ?side2 A59.out).mono ?_
                 (case side1 => repeat (first | exact (Kd.C_below HR0_0.out HB.out) | (with_reducible refine Kd.C_alloc ?_ _) | (with_reducible refine Kd.C_drewN ?_ _) | (with_reducible refine Kd.C_drew ?_)))
                 (case side2 => exact HC0_0.out)
                 rintro e w179 ⟨v254, rfl, ho0, hb⟩
                 refine ⟨_, rfl, ?_⟩
                 have n0_ := Aside0.mk (Kd.R_elder' by15 (Kd.R_base ho0) hb)
                 have n1_ := Aside0.mk (Kd.R_elder' by16 (Kd.R_base ho0) hb)
                 have n2_ := Aside0.mk (Kd.R_elder' by17 (Kd.R_base ho0) hb)
                 have n3_ := Aside0.mk (Kd.R_lower (Kd.R_new' (Kd.R_new' (Kd.R_new' ho0 (Kd.R_lt by15)) (Kd.R_lt by16)) (Kd.R_lt by17)) (below_size by5))
                 have n4_ := Aside0.mk (blk_below (g := gb233) (o := .cells #[.slice A0_0 l0_0.length c0_0] 37 (0, 0)) by6 hb)
                 have n5_ := Aside0.mk (blk_below (g := gb242) (o := .cells #[.slice Ao23 t238.length co23] 45 (0, 0)) by12 hb)
                 have n6_ := Aside0.mk (blk_below (g := gb246) (o := .cells #[.slice Ao29 t243.length co29] 45 (0, 0)) by13 hb)
                 have n7_ := Aside0.mk (blk_below (g := gb251) (o := .cells #[.slice Ao35 t247.length co35] 45 (0, 0)) by14 hb)
                 have n8_ := Aside0.mk (below_step by5 hb)
                 clear HO_243000
                 clear HO_247000
                 clear HO_252000
                 clear BK233
                 clear BK242
                 clear BK246
                 clear BK251
                 clear HB
                 have HO_243000 := n0_
                 have HO_247000 := n1_
                 have HO_252000 := n2_
                 have HO255 := n3_
                 have BK233 := n4_
                 have BK242 := n5_
                 have BK246 := n6_
                 have BK251 := n7_
                 have HB := n8_
                 clear n0_ n1_ n2_ n3_ n4_ n5_ n6_ n7_ n8_
                 (try clear hb)
                 (try clear hb2)
                 (try clear hk)
                 (try clear hi)
                 (try clear ho0)
                 obtain ⟨Ao180, co180, eo180⟩ := Kd.R_slice HO255.out
                 (first | subst eo180 | (injection eo180 with f1_ f2_ f3_; have f4_ := f1_.symm; have f5_ := f3_.symm; clear f1_ f2_ f3_; subst f4_; subst f5_))
                 refine hK.out _ _ ⟨(blk_cell BK246.out 0).trans rfl, (blk_cell BK233.out 0).trans rfl⟩ (fun hHeld => ?_)
                 clear hK K
                 refine norm_ (a' := ?_) ?_ ?_
                 rotate_left
                 · show Act.put _ (some 55) _ = _
                   simp only [Act.put, List.setIfInBounds_toArray, List.set_cons_zero, List.set_cons_succ, i64_w, i32_w]
                   rfl
                 refine one_ (i := 3) (N := some 56) #[true, true, true, true, false] rfl rfl by2 (by decide) (fun K hK => ?_)
                 refine goes_ Try.func29 by2 rfl #[.agg #[.slice Ao29 t243.length co29], .agg #[.slice Ao180 t253.length co180]] (by rfl) rfl rfl by0 ?_
                 with_reducible refine (laws_eqMemory.calls kj13 _ _ t243 _ _ t253 false _ ?side1 ?side2 ?side3 ?side4 A60.out).mono ?_
                 (case side1 => repeat (first | exact (Kd.R_reads' HO_247000.out).2.2 | (with_reducible refine Kd.C_alloc ?_ _) | (with_reducible refine Kd.C_drewN ?_ _) | (with_reducible refine Kd.C_drew ?_)))
                 (case side2 => exact (Kd.R_reads' HO_247000.out).2.1)
                 (case side3 => repeat (first | exact (Kd.R_reads' HO255.out).2.2 | (with_reducible refine Kd.C_alloc ?_ _) | (with_reducible refine Kd.C_drewN ?_ _) | (with_reducible refine Kd.C_drew ?_)))
                 (case side4 => exact (Kd.R_reads' HO255.out).2.1)
                 rintro e w181 ⟨rfl, hb⟩
                 refine ⟨_, rfl, ?_⟩
                 have n0_ := Aside0.mk (Kd.R_below by15 hb)
                 have n1_ := Aside0.mk (Kd.R_below by16 hb)
                 have n2_ := Aside0.mk (Kd.R_below by17 hb)
                 have n3_ := Aside0.mk (Kd.R_below by112 hb)
                 have n4_ := Aside0.mk (blk_below (g := gb233) (o := .cells #[.slice A0_0 l0_0.length c0_0] 37 (0, 0)) by6 hb)
                 have n5_ := Aside0.mk (blk_below (g := gb242) (o := .cells #[.slice Ao23 t238.length co23] 45 (0, 0)) by12 hb)
                 have n6_ := Aside0.mk (blk_below (g := gb246) (o := .cells #[.slice Ao29 t243.length co29] 45 (0, 0)) by13 hb)
                 have n7_ := Aside0.mk (blk_below (g := gb251) (o := .cells #[.slice Ao35 t247.length co35] 45 (0, 0)) by14 hb)
                 have n8_ := Aside0.mk (below_step by5 hb)
                 clear HO_243000
                 clear HO_247000
                 clear HO_252000
                 clear HO255
                 clear BK233
                 clear BK242
                 clear BK246
                 clear BK251
                 clear HB
                 have HO_243000 := n0_
                 have HO_247000 := n1_
                 have HO_252000 := n2_
                 have HO255 := n3_
                 have BK233 := n4_
                 have BK242 := n5_
                 have BK246 := n6_
                 have BK251 := n7_
                 have HB := n8_
                 clear n0_ n1_ n2_ n3_ n4_ n5_ n6_ n7_ n8_
                 (try clear hb)
                 (try clear hb2)
                 (try clear hk)
                 (try clear hi)
                 refine hK.out _ _ ⟨(blk_cell BK246.out 0).trans rfl, (blk_cell BK233.out 0).trans rfl⟩ (fun hHeld => ?_)
                 clear hK K
                 refine norm_ (a' := ?_) ?_ ?_
                 rotate_left
                 · show Act.put _ (some 56) _ = _
                   simp only [Act.put, List.setIfInBounds_toArray, List.set_cons_zero, List.set_cons_succ, i64_w, i32_w]
                   rfl
                 refine pure_ (i := 4) (N := some 57) (v := ?_) (a' := ?_) #[true, true, true, true, true] rfl rfl by2 (fun _ _ _ h => h) (Or.inl ⟨by rfl, ?_⟩) ?_ ?_
                 rotate_left
                 · intro w'
                   go_simp
                   with_reducible rfl
                 rotate_left
                 · simp only [Act.put, List.setIfInBounds_toArray, List.set_cons_zero, List.set_cons_succ, i64_w, i32_w]
                   rfl
                 refine done_ by2 ?_
                 try go_wp2
                 go_ret
                 exact ⟨by first | rfl | (simp [errW_none, errW_some] <;> rfl) | (simp [*, errW_none, errW_some] <;> rfl), by repeat (first | (with_reducible first | exact HB.out | apply below_alloc | apply pw_below_drewN | apply below_drew1 | refine below_set ?_ GE233.out | refine below_set ?_ GE242.out | refine below_set ?_ GE246.out | refine below_set ?_ GE251.out) | exact HB.out)⟩)def ok157 (x : S157) : Prop := ((Lit.int .i64 x.f0).wf = true) ∧ ((Lit.int .i64 x.f1).wf = true) ∧ (x.f2.size ≤ 9223372036854775807)
def ok37 (x : S37) : Prop := ((x.f0.length ≤ 9223372036854775807 ∧ ∀ y ∈ x.f0, ok157 y))
/-- THE ONE PURE STATEMENT of laws_FnExactStoreAt: yours. -/
def laws_FnExactStoreAt.Pure : Prop := ∀ (x0 : S37) (a1 : Int) (a2 : Int) (a3 : Int), ok37 x0 → (Lit.int .i64 a1).wf = true → (Lit.int .i64 a2).wf = true → (Lit.int .i64 a3).wf = true → ∃ k, laws_FnExactStoreAt.f k x0.f0 a1 a2 a3 = some true
theorem laws_FnExactStoreAt.walk (P : laws_FnExactStoreAt.Pure) (x0 : S37) (A0_0 : Option Addr) (c0_0 : Nat) (a1 : Int) (a2 : Int) (a3 : Int) (w : World) (okx0 : ok37 x0) (hr0_0 : Kd.C k157 w A0_0 x0.f0.length x0.f0) (hc0_0 : x0.f0.length ≤ c0_0) (w1 : (Lit.int .i64 a1).wf = true) (w2 : (Lit.int .i64 a2).wf = true) (w3 : (Lit.int .i64 a3).wf = true) :
    Calls Try.prog 5 #[.agg #[.slice A0_0 x0.f0.length c0_0], .int .i64 a1, .int .i64 a2, .int .i64 a3] w fun e w' => e = .returned (.bool true) ∧ Below w.heap.size w w' := by
  obtain ⟨k, h⟩ := P x0 a1 a2 a3 okx0 w1 w2 w3
  refine (laws_FnExactStoreAt.calls k A0_0 c0_0 x0.f0 a1 a2 a3 true w hr0_0 hc0_0 h).mono ?_
  rintro e w' ⟨rfl, hd⟩
  exact ⟨rfl, hd⟩

end Go.Proofs.Ytigoabhkdipdeaa.PFnExactStoreAt
