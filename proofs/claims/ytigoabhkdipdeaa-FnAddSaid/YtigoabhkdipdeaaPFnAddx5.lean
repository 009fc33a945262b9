/- Laid by a program of this session (patch_print.py) out of the translation: plain functions and what the calls do. No condition. -/
import Derived.Test.YtigoabhkdipdeaaPFnAddx0
import Derived.Test.YtigoabhkdipdeaaPFnAddx1
import Derived.Test.YtigoabhkdipdeaaPFnAddx2
import Derived.Test.YtigoabhkdipdeaaPFnAddx4
namespace Go.Proofs.Ytigoabhkdipdeaa.PFnAdd
open Go.RowKit Go.Proofs.YtigoabhkdipdeaaW.PrintWords Go.Proofs.YtigoabhkdipdeaaW.PrintLast Go.Proofs.YtigoabhkdipdeaaW.PrintMore
attribute [local go_sem] max2_int min2_int max_two min_two max_three min_three max_four min_four   -- for this text's walks alone
set_option linter.unusedVariables false
set_option linter.unusedSimpArgs false

/-! ### laws_FnAdd: function 13 -/
mutual
def laws_FnAdd.j0 : Nat → List Int → List Int → Bool → Option (Bool)
  | 0, _, _, _ => none
  | k + 1, x0, x1, x42 => if x42 = true then (some true) else ((spec_NumberOf.f x0).bind fun t263 => ((spec_NumberOf.f x1).bind fun t264 => ((laws_sizeAt.f x1 0).bind fun t265 => ((spec_FlagsDrawn.f k x0).bind fun t266 => ((impl_Alu.f 3 t265 t263 t264 t266).bind fun bt267 => ((spec_Alu.f k 3 t265 t263 t264 t266).bind fun bt270 => ((impl_Alu.f 4 t265 bt267.1 t264 t266).bind fun bt273 => ((impl_ZeroOf.f t263 t265).bind fun bt276 => ((impl_ZeroOf.f t264 t265).bind fun bt278 => ((impl_Alu.f 8 t265 t263 t264 t266).bind fun bt280 => (if bt267.2.2 = 0 then (if bt267.1 = bt270.1 then (if bt267.2.1 = bt270.2.1 then (if bt273.2.2 = 0 then (if bt273.1 = bt276.1 then (if (Go.bits .and .i64 bt273.2.1 1) = (Go.bits .and .i64 bt267.2.1 1) then (if bt276.2 = 0 then (if bt278.2 = 0 then (if bt280.2.2 = 0 then (laws_FnAdd.j1 k t263 t264 t265 t266 bt267.1 bt267.2.1 bt276.1 bt278.1 bt280.2.1 (bt280.1 != bt276.1)) else (laws_FnAdd.j1 k t263 t264 t265 t266 bt267.1 bt267.2.1 bt276.1 bt278.1 bt280.2.1 true)) else (laws_FnAdd.j1 k t263 t264 t265 t266 bt267.1 bt267.2.1 bt276.1 bt278.1 bt280.2.1 true)) else (laws_FnAdd.j1 k t263 t264 t265 t266 bt267.1 bt267.2.1 bt276.1 bt278.1 bt280.2.1 true)) else (laws_FnAdd.j1 k t263 t264 t265 t266 bt267.1 bt267.2.1 bt276.1 bt278.1 bt280.2.1 true)) else (laws_FnAdd.j1 k t263 t264 t265 t266 bt267.1 bt267.2.1 bt276.1 bt278.1 bt280.2.1 true)) else (laws_FnAdd.j1 k t263 t264 t265 t266 bt267.1 bt267.2.1 bt276.1 bt278.1 bt280.2.1 true)) else (laws_FnAdd.j1 k t263 t264 t265 t266 bt267.1 bt267.2.1 bt276.1 bt278.1 bt280.2.1 true)) else (laws_FnAdd.j1 k t263 t264 t265 t266 bt267.1 bt267.2.1 bt276.1 bt278.1 bt280.2.1 true)) else (laws_FnAdd.j1 k t263 t264 t265 t266 bt267.1 bt267.2.1 bt276.1 bt278.1 bt280.2.1 true))))))))))))
def laws_FnAdd.j1 : Nat → Int → Int → Int → Int → Int → Int → Int → Int → Int → Bool → Option (Bool)
  | 0, _, _, _, _, _, _, _, _, _, _ => none
  | k + 1, x5, x6, x7, x8, x9, x10, x18, x20, x23, x143 => if x143 = true then (some false) else ((impl_Holds.f 2 x23).bind fun bt283 => ((impl_Holds.f 4 x23).bind fun bt285 => ((impl_Holds.f 12 x23).bind fun bt287 => ((impl_SignOf.f x5 x7).bind fun bt289 => ((impl_SignOf.f x6 x7).bind fun bt291 => (if bt283.2 = 0 then ((impl_BelowU.f x18 x20).bind fun t293 => (if (bt283.1 == t293) = true then (if bt285.2 = 0 then (if (bt285.1 == (x18 == x20)) = true then (if bt287.2 = 0 then (if bt289.2 = 0 then (if bt291.2 = 0 then (if (bt287.1 == (decide (bt289.1 < bt291.1))) = true then (if x7 = 8 then (some true) else (if 0 ≤ (IntKind.u64.wrap (wrap64 (8 * x7))) then (some ((wrap64 (x9 + (shl .i64 (Go.bits .and .i64 x10 1) (IntKind.u64.wrap (wrap64 (8 * x7)))))) == (wrap64 ((wrap64 (x18 + x20)) + (Go.bits .and .i64 x8 1))))) else (none))) else (some false)) else (some false)) else (some false)) else (some false)) else (some false)) else (some false)) else (some false))) else (some false)))))))
end
def laws_FnAdd.f (k : Nat) (l0 : List Int) (l1 : List Int) : Option (Bool) := if (l0.length : Int) > 1048576 then (laws_FnAdd.j0 k l0 l1 true) else (laws_FnAdd.j0 k l0 l1 (decide ((l1.length : Int) > 1048576)))
theorem laws_FnAdd.mono_l : ∀ k, (∀ y0 y1 y2, LeO (laws_FnAdd.j0 k y0 y1 y2) (laws_FnAdd.j0 (k + 1) y0 y1 y2)) ∧ (∀ y0 y1 y2 y3 y4 y5 y6 y7 y8 y9, LeO (laws_FnAdd.j1 k y0 y1 y2 y3 y4 y5 y6 y7 y8 y9) (laws_FnAdd.j1 (k + 1) y0 y1 y2 y3 y4 y5 y6 y7 y8 y9))
  | 0 => ⟨fun _ _ _ r h => by simp [laws_FnAdd.j0] at h, fun _ _ _ _ _ _ _ _ _ _ r h => by simp [laws_FnAdd.j1] at h⟩
  | k + 1 => by
    obtain ⟨ih0, ih1⟩ := laws_FnAdd.mono_l k
    refine ⟨?_, ?_⟩
    · intro y0 y1 y2
      unfold laws_FnAdd.j0
      repeat' first
      | (with_reducible exact ih0 _ _ _)
      | (with_reducible exact ih1 _ _ _ _ _ _ _ _ _ _)
      | (with_reducible exact spec_Alu.mono _ _ _ _ _ _)
      | (with_reducible exact spec_FlagsDrawn.mono _ _)
      | (with_reducible exact LeO.refl _)
      | (with_reducible exact LeO.none _)
      | (with_reducible refine LeO.ite ?_ ?_)
      | (with_reducible refine LeO.bind ?_ (fun _ => ?_))
      | refine LeO.ite ?_ ?_
      | refine LeO.bind ?_ (fun _ => ?_)
    · intro y0 y1 y2 y3 y4 y5 y6 y7 y8 y9
      unfold laws_FnAdd.j1
      repeat' first
      | (with_reducible exact ih0 _ _ _)
      | (with_reducible exact ih1 _ _ _ _ _ _ _ _ _ _)
      | (with_reducible exact spec_Alu.mono _ _ _ _ _ _)
      | (with_reducible exact spec_FlagsDrawn.mono _ _)
      | (with_reducible exact LeO.refl _)
      | (with_reducible exact LeO.none _)
      | (with_reducible refine LeO.ite ?_ ?_)
      | (with_reducible refine LeO.bind ?_ (fun _ => ?_))
      | refine LeO.ite ?_ ?_
      | refine LeO.bind ?_ (fun _ => ?_)
theorem laws_FnAdd.mono : ∀ a0 a1 k, LeO (laws_FnAdd.f k a0 a1) (laws_FnAdd.f (k + 1) a0 a1) := by
  intro a0 a1 k
  obtain ⟨ih0, ih1⟩ := laws_FnAdd.mono_l k
  unfold laws_FnAdd.f
  repeat' first
      | (with_reducible exact ih0 _ _ _)
      | (with_reducible exact ih1 _ _ _ _ _ _ _ _ _ _)
      | (with_reducible exact spec_Alu.mono _ _ _ _ _ _)
      | (with_reducible exact spec_FlagsDrawn.mono _ _)
      | (with_reducible exact LeO.refl _)
      | (with_reducible exact LeO.none _)
      | (with_reducible refine LeO.ite ?_ ?_)
      | (with_reducible refine LeO.bind ?_ (fun _ => ?_))
      | refine LeO.ite ?_ ?_
      | refine LeO.bind ?_ (fun _ => ?_)
theorem laws_FnAdd.e0 {p : Prop} (h : p := by
  obtain rfl := Option.some.inj H
  go_wp2
  go_ret
  exact ⟨by first | rfl | (simp [errW_none, errW_some] <;> rfl) | (simp [*, errW_none, errW_some] <;> rfl), by repeat (first | (with_reducible first | exact HB.out | apply below_alloc | apply pw_below_drewN | apply below_drew1) | exact HB.out)⟩) : p := h
theorem laws_FnAdd.e1 {p : Prop} (h : p := by
  obtain rfl := Option.some.inj H
  go_wp2_with (first | ((with_reducible refine gate_callee (f := 64) rfl ?_); refine goesL_ (some 146) rfl rfl Try.func64 (by kernel_rfl) rfl #[.int .i64 2, .int .i64 t281] rfl (by (try simp only [List.map_toArray, List.map_cons, List.map_nil]); first | done | rfl | (simp only [List.length_drop, List.length_take]; rfl)) ?_; (with_reducible refine (impl_Holds.calls 2 t281 t283 t284 _ A31.out).mono ?_); rintro e w_y0 ⟨rfl, hb⟩; refine ⟨_, rfl, ?_⟩; have n_y1 := Aside0.mk (below_step (by repeat (first | (with_reducible first | exact HB.out | apply below_alloc | apply pw_below_drewN | apply below_drew1) | exact HB.out)) hb); clear HB; have HB := n_y1; clear n_y1; (try clear hb); (try clear hb2); (try clear hk); (try clear hi)) | ((with_reducible refine gate_callee (f := 64) rfl ?_); refine goesL_ (some 151) rfl rfl Try.func64 (by kernel_rfl) rfl #[.int .i64 4, .int .i64 t281] rfl (by (try simp only [List.map_toArray, List.map_cons, List.map_nil]); first | done | rfl | (simp only [List.length_drop, List.length_take]; rfl)) ?_; (with_reducible refine (impl_Holds.calls 4 t281 t285 t286 _ A32.out).mono ?_); rintro e w_y2 ⟨rfl, hb⟩; refine ⟨_, rfl, ?_⟩; have n_y1 := Aside0.mk (below_step (by repeat (first | (with_reducible first | exact HB.out | apply below_alloc | apply pw_below_drewN | apply below_drew1) | exact HB.out)) hb); clear HB; have HB := n_y1; clear n_y1; (try clear hb); (try clear hb2); (try clear hk); (try clear hi)) | ((with_reducible refine gate_callee (f := 64) rfl ?_); refine goesL_ (some 156) rfl rfl Try.func64 (by kernel_rfl) rfl #[.int .i64 12, .int .i64 t281] rfl (by (try simp only [List.map_toArray, List.map_cons, List.map_nil]); first | done | rfl | (simp only [List.length_drop, List.length_take]; rfl)) ?_; (with_reducible refine (impl_Holds.calls 12 t281 t287 t288 _ A33.out).mono ?_); rintro e w_y3 ⟨rfl, hb⟩; refine ⟨_, rfl, ?_⟩; have n_y1 := Aside0.mk (below_step (by repeat (first | (with_reducible first | exact HB.out | apply below_alloc | apply pw_below_drewN | apply below_drew1) | exact HB.out)) hb); clear HB; have HB := n_y1; clear n_y1; (try clear hb); (try clear hb2); (try clear hk); (try clear hi)) | ((with_reducible refine gate_callee (f := 65) rfl ?_); refine goesL_ (some 162) rfl rfl Try.func65 (by kernel_rfl) rfl #[.int .i64 t263, .int .i64 t265] rfl (by (try simp only [List.map_toArray, List.map_cons, List.map_nil]); first | done | rfl | (simp only [List.length_drop, List.length_take]; rfl)) ?_; (with_reducible refine (impl_SignOf.calls t263 t265 t289 t290 _ A34.out).mono ?_); rintro e w' ⟨rfl, ⟨nd, rfl⟩⟩; refine ⟨_, rfl, ?_⟩) | ((with_reducible refine gate_callee (f := 65) rfl ?_); refine goesL_ (some 168) rfl rfl Try.func65 (by kernel_rfl) rfl #[.int .i64 t264, .int .i64 t265] rfl (by (try simp only [List.map_toArray, List.map_cons, List.map_nil]); first | done | rfl | (simp only [List.length_drop, List.length_take]; rfl)) ?_; (with_reducible refine (impl_SignOf.calls t264 t265 t291 t292 _ A35.out).mono ?_); rintro e w' ⟨rfl, ⟨nd, rfl⟩⟩; refine ⟨_, rfl, ?_⟩) | (go_at_call 66; (with_reducible refine (impl_BelowU.calls t276 t278 t293 _ A37.out).mono ?_); rintro e w' ⟨rfl, ⟨nd, rfl⟩⟩))
  go_ret
  exact ⟨by first | rfl | (simp [errW_none, errW_some] <;> rfl) | (simp [*, errW_none, errW_some] <;> rfl), by repeat (first | (with_reducible first | exact HB.out | apply below_alloc | apply pw_below_drewN | apply below_drew1) | exact HB.out)⟩) : p := h
theorem laws_FnAdd.j1_no {k : Nat} {y0 : _} {y1 : _} {y2 : _} {y3 : _} {y4 : _} {y5 : _} {y6 : _} {y7 : _} {y8 : _} {r : Bool} (h : laws_FnAdd.j1 k y0 y1 y2 y3 y4 y5 y6 y7 y8 true = some r) : r = false := by
  cases k with
  | zero => simp [laws_FnAdd.j1] at h
  | succ k => simp only [laws_FnAdd.j1, if_true] at h; exact (Option.some.inj h).symm
set_option maxHeartbeats 64000000 in
set_option maxRecDepth 100000 in
theorem laws_FnAdd.calls (k : Nat) (A0 : Option Addr) (c0 : Nat) (l0 : List Int) (A1 : Option Addr) (c1 : Nat) (l1 : List Int) (r : Bool) (w : World) (hr0 : Kd.C (Kd.int .u8) w A0 l0.length l0) (hc0 : l0.length ≤ c0) (hr1 : Kd.C (Kd.int .u8) w A1 l1.length l1) (hc1 : l1.length ≤ c1) (h : laws_FnAdd.f k l0 l1 = some r) (hr_ : r = true := by rfl) :
    Calls Try.prog 13 #[.slice A0 l0.length c0, .slice A1 l1.length c1] w fun e w' => e = .returned (.bool r) ∧ Below w.heap.size w w' := by
  have HR_ := Aside0.mk hr_
  clear hr_
  have HR0 := Aside0.mk hr0
  have HC0 := Aside0.mk hc0
  clear hr0 hc0
  have HR1 := Aside0.mk hr1
  have HC1 := Aside0.mk hc1
  clear hr1 hc1
  have HB := Aside0.mk (Below.refl w.heap.size w)
  have H : (if (l0.length : Int) > 1048576 then (laws_FnAdd.j0 k l0 l1 true) else (laws_FnAdd.j0 k l0 l1 (decide ((l1.length : Int) > 1048576)))) = some r := h
  clear h
  have HC3 := Aside0.mk H
  clear H
  go_enter Try.func13, Try.ntmps13
  go_upto_region 1 with (fail)
  go_cut [42] (fun v42 wc => ∃ (kq : Nat) (x42_2 : Bool), v42 = .bool x42_2 ∧ Aside0 (laws_FnAdd.j0 kq l0 l1 x42_2 = some r) ∧ Aside0 (kq ≤ k) ∧ Aside0 (Below w.heap.size w wc))
  case first =>
    have H := HC3.out
    clear HC3
    by_cases c4 : (l0.length : Int) > 1048576
    · rw [if_pos c4] at H
      have c4b0 : decide (1048576 < (l0.length : Int)) = true := decide_eq_true c4
      have c4b1 : decide (1048576 < l0.length) = true := decide_eq_true (by omega)
      clear c4
      (first | rw [c4b0] | (simp only [i64_w, i32_w]; rw [c4b0]) | rw [c4b1] | skip)
      first
        | exact absurd ((laws_FnAdd.j1_no H).symm.trans HR_.out) (by decide)
        | (have H' := Aside0.mk H
           clear H
           go_wp2
           go_meet
           case rel => exact ⟨_, (true), (by first | rfl | (simp; done) | (simp [*]; done)), H', ⟨by first | omega | exact Nat.le_refl _⟩, ⟨by repeat (first | (with_reducible first | exact HB.out | apply below_alloc | apply pw_below_drewN | apply below_drew1) | exact HB.out)⟩⟩)
    · rw [if_neg c4] at H
      have c4b0 : decide (1048576 < (l0.length : Int)) = false := decide_eq_false c4
      have c4b1 : decide (1048576 < l0.length) = false := decide_eq_false (by omega)
      clear c4
      (first | rw [c4b0] | (simp only [i64_w, i32_w]; rw [c4b0]) | rw [c4b1] | skip)
      have H' := Aside0.mk H
      clear H
      go_wp2
      go_meet
      case rel => exact ⟨_, (decide ((l1.length : Int) > 1048576)), (by first | rfl | (simp; done) | (simp [*]; done)), H', ⟨by first | omega | exact Nat.le_refl _⟩, ⟨by repeat (first | (with_reducible first | exact HB.out | apply below_alloc | apply pw_below_drewN | apply below_drew1) | exact HB.out)⟩⟩
  case rest =>
    clear HC3
    (try clear c1); (try clear c4); (try clear c4b0); (try clear c4b1)
    obtain ⟨kq, x42_2, rfl, HA, HJ2, HB⟩ := hcut
    cases kq with
    | zero => exact absurd HA.out (by simp [laws_FnAdd.j0])
    | succ kj2 =>
      have H := HA.out
      clear HA
      simp only [laws_FnAdd.j0] at H
      by_cases c5 : x42_2 = true
      · subst c5
        have H1 : (some true) = some r := by rw [if_pos rfl] at H; exact H
        clear H
        have H := H1
        clear H1
        first | exact absurd ((Option.some.inj H).trans HR_.out) (by decide) | exact laws_FnAdd.e0
      · replace c5 := Bool.eq_false_iff.mpr c5
        subst c5
        have H1 : ((spec_NumberOf.f l0).bind fun t263 => ((spec_NumberOf.f l1).bind fun t264 => ((laws_sizeAt.f l1 0).bind fun t265 => ((spec_FlagsDrawn.f kj2 l0).bind fun t266 => ((impl_Alu.f 3 t265 t263 t264 t266).bind fun bt267 => ((spec_Alu.f kj2 3 t265 t263 t264 t266).bind fun bt270 => ((impl_Alu.f 4 t265 bt267.1 t264 t266).bind fun bt273 => ((impl_ZeroOf.f t263 t265).bind fun bt276 => ((impl_ZeroOf.f t264 t265).bind fun bt278 => ((impl_Alu.f 8 t265 t263 t264 t266).bind fun bt280 => (if bt267.2.2 = 0 then (if bt267.1 = bt270.1 then (if bt267.2.1 = bt270.2.1 then (if bt273.2.2 = 0 then (if bt273.1 = bt276.1 then (if (Go.bits .and .i64 bt273.2.1 1) = (Go.bits .and .i64 bt267.2.1 1) then (if bt276.2 = 0 then (if bt278.2 = 0 then (if bt280.2.2 = 0 then (laws_FnAdd.j1 kj2 t263 t264 t265 t266 bt267.1 bt267.2.1 bt276.1 bt278.1 bt280.2.1 (bt280.1 != bt276.1)) else (laws_FnAdd.j1 kj2 t263 t264 t265 t266 bt267.1 bt267.2.1 bt276.1 bt278.1 bt280.2.1 true)) else (laws_FnAdd.j1 kj2 t263 t264 t265 t266 bt267.1 bt267.2.1 bt276.1 bt278.1 bt280.2.1 true)) else (laws_FnAdd.j1 kj2 t263 t264 t265 t266 bt267.1 bt267.2.1 bt276.1 bt278.1 bt280.2.1 true)) else (laws_FnAdd.j1 kj2 t263 t264 t265 t266 bt267.1 bt267.2.1 bt276.1 bt278.1 bt280.2.1 true)) else (laws_FnAdd.j1 kj2 t263 t264 t265 t266 bt267.1 bt267.2.1 bt276.1 bt278.1 bt280.2.1 true)) else (laws_FnAdd.j1 kj2 t263 t264 t265 t266 bt267.1 bt267.2.1 bt276.1 bt278.1 bt280.2.1 true)) else (laws_FnAdd.j1 kj2 t263 t264 t265 t266 bt267.1 bt267.2.1 bt276.1 bt278.1 bt280.2.1 true)) else (laws_FnAdd.j1 kj2 t263 t264 t265 t266 bt267.1 bt267.2.1 bt276.1 bt278.1 bt280.2.1 true)) else (laws_FnAdd.j1 kj2 t263 t264 t265 t266 bt267.1 bt267.2.1 bt276.1 bt278.1 bt280.2.1 true)))))))))))) = some r := by rw [if_neg (show ¬ (false = true) by decide)] at H; exact H
        clear H
        have H := H1
        clear H1
        replace H := Option.bind_eq_some_iff.mp H
        obtain ⟨t263, A60, H⟩ := H
        replace H : ((spec_NumberOf.f l1).bind fun t264 => ((laws_sizeAt.f l1 0).bind fun t265 => ((spec_FlagsDrawn.f kj2 l0).bind fun t266 => ((impl_Alu.f 3 t265 t263 t264 t266).bind fun bt267 => ((spec_Alu.f kj2 3 t265 t263 t264 t266).bind fun bt270 => ((impl_Alu.f 4 t265 bt267.1 t264 t266).bind fun bt273 => ((impl_ZeroOf.f t263 t265).bind fun bt276 => ((impl_ZeroOf.f t264 t265).bind fun bt278 => ((impl_Alu.f 8 t265 t263 t264 t266).bind fun bt280 => (if bt267.2.2 = 0 then (if bt267.1 = bt270.1 then (if bt267.2.1 = bt270.2.1 then (if bt273.2.2 = 0 then (if bt273.1 = bt276.1 then (if (Go.bits .and .i64 bt273.2.1 1) = (Go.bits .and .i64 bt267.2.1 1) then (if bt276.2 = 0 then (if bt278.2 = 0 then (if bt280.2.2 = 0 then (laws_FnAdd.j1 kj2 t263 t264 t265 t266 bt267.1 bt267.2.1 bt276.1 bt278.1 bt280.2.1 (bt280.1 != bt276.1)) else (laws_FnAdd.j1 kj2 t263 t264 t265 t266 bt267.1 bt267.2.1 bt276.1 bt278.1 bt280.2.1 true)) else (laws_FnAdd.j1 kj2 t263 t264 t265 t266 bt267.1 bt267.2.1 bt276.1 bt278.1 bt280.2.1 true)) else (laws_FnAdd.j1 kj2 t263 t264 t265 t266 bt267.1 bt267.2.1 bt276.1 bt278.1 bt280.2.1 true)) else (laws_FnAdd.j1 kj2 t263 t264 t265 t266 bt267.1 bt267.2.1 bt276.1 bt278.1 bt280.2.1 true)) else (laws_FnAdd.j1 kj2 t263 t264 t265 t266 bt267.1 bt267.2.1 bt276.1 bt278.1 bt280.2.1 true)) else (laws_FnAdd.j1 kj2 t263 t264 t265 t266 bt267.1 bt267.2.1 bt276.1 bt278.1 bt280.2.1 true)) else (laws_FnAdd.j1 kj2 t263 t264 t265 t266 bt267.1 bt267.2.1 bt276.1 bt278.1 bt280.2.1 true)) else (laws_FnAdd.j1 kj2 t263 t264 t265 t266 bt267.1 bt267.2.1 bt276.1 bt278.1 bt280.2.1 true)) else (laws_FnAdd.j1 kj2 t263 t264 t265 t266 bt267.1 bt267.2.1 bt276.1 bt278.1 bt280.2.1 true))))))))))) = some r := H
        have A6 := Aside0.mk A60
        clear A60
        replace H := Option.bind_eq_some_iff.mp H
        obtain ⟨t264, A70, H⟩ := H
        replace H : ((laws_sizeAt.f l1 0).bind fun t265 => ((spec_FlagsDrawn.f kj2 l0).bind fun t266 => ((impl_Alu.f 3 t265 t263 t264 t266).bind fun bt267 => ((spec_Alu.f kj2 3 t265 t263 t264 t266).bind fun bt270 => ((impl_Alu.f 4 t265 bt267.1 t264 t266).bind fun bt273 => ((impl_ZeroOf.f t263 t265).bind fun bt276 => ((impl_ZeroOf.f t264 t265).bind fun bt278 => ((impl_Alu.f 8 t265 t263 t264 t266).bind fun bt280 => (if bt267.2.2 = 0 then (if bt267.1 = bt270.1 then (if bt267.2.1 = bt270.2.1 then (if bt273.2.2 = 0 then (if bt273.1 = bt276.1 then (if (Go.bits .and .i64 bt273.2.1 1) = (Go.bits .and .i64 bt267.2.1 1) then (if bt276.2 = 0 then (if bt278.2 = 0 then (if bt280.2.2 = 0 then (laws_FnAdd.j1 kj2 t263 t264 t265 t266 bt267.1 bt267.2.1 bt276.1 bt278.1 bt280.2.1 (bt280.1 != bt276.1)) else (laws_FnAdd.j1 kj2 t263 t264 t265 t266 bt267.1 bt267.2.1 bt276.1 bt278.1 bt280.2.1 true)) else (laws_FnAdd.j1 kj2 t263 t264 t265 t266 bt267.1 bt267.2.1 bt276.1 bt278.1 bt280.2.1 true)) else (laws_FnAdd.j1 kj2 t263 t264 t265 t266 bt267.1 bt267.2.1 bt276.1 bt278.1 bt280.2.1 true)) else (laws_FnAdd.j1 kj2 t263 t264 t265 t266 bt267.1 bt267.2.1 bt276.1 bt278.1 bt280.2.1 true)) else (laws_FnAdd.j1 kj2 t263 t264 t265 t266 bt267.1 bt267.2.1 bt276.1 bt278.1 bt280.2.1 true)) else (laws_FnAdd.j1 kj2 t263 t264 t265 t266 bt267.1 bt267.2.1 bt276.1 bt278.1 bt280.2.1 true)) else (laws_FnAdd.j1 kj2 t263 t264 t265 t266 bt267.1 bt267.2.1 bt276.1 bt278.1 bt280.2.1 true)) else (laws_FnAdd.j1 kj2 t263 t264 t265 t266 bt267.1 bt267.2.1 bt276.1 bt278.1 bt280.2.1 true)) else (laws_FnAdd.j1 kj2 t263 t264 t265 t266 bt267.1 bt267.2.1 bt276.1 bt278.1 bt280.2.1 true)))))))))) = some r := H
        have A7 := Aside0.mk A70
        clear A70
        replace H := Option.bind_eq_some_iff.mp H
        obtain ⟨t265, A80, H⟩ := H
        replace H : ((spec_FlagsDrawn.f kj2 l0).bind fun t266 => ((impl_Alu.f 3 t265 t263 t264 t266).bind fun bt267 => ((spec_Alu.f kj2 3 t265 t263 t264 t266).bind fun bt270 => ((impl_Alu.f 4 t265 bt267.1 t264 t266).bind fun bt273 => ((impl_ZeroOf.f t263 t265).bind fun bt276 => ((impl_ZeroOf.f t264 t265).bind fun bt278 => ((impl_Alu.f 8 t265 t263 t264 t266).bind fun bt280 => (if bt267.2.2 = 0 then (if bt267.1 = bt270.1 then (if bt267.2.1 = bt270.2.1 then (if bt273.2.2 = 0 then (if bt273.1 = bt276.1 then (if (Go.bits .and .i64 bt273.2.1 1) = (Go.bits .and .i64 bt267.2.1 1) then (if bt276.2 = 0 then (if bt278.2 = 0 then (if bt280.2.2 = 0 then (laws_FnAdd.j1 kj2 t263 t264 t265 t266 bt267.1 bt267.2.1 bt276.1 bt278.1 bt280.2.1 (bt280.1 != bt276.1)) else (laws_FnAdd.j1 kj2 t263 t264 t265 t266 bt267.1 bt267.2.1 bt276.1 bt278.1 bt280.2.1 true)) else (laws_FnAdd.j1 kj2 t263 t264 t265 t266 bt267.1 bt267.2.1 bt276.1 bt278.1 bt280.2.1 true)) else (laws_FnAdd.j1 kj2 t263 t264 t265 t266 bt267.1 bt267.2.1 bt276.1 bt278.1 bt280.2.1 true)) else (laws_FnAdd.j1 kj2 t263 t264 t265 t266 bt267.1 bt267.2.1 bt276.1 bt278.1 bt280.2.1 true)) else (laws_FnAdd.j1 kj2 t263 t264 t265 t266 bt267.1 bt267.2.1 bt276.1 bt278.1 bt280.2.1 true)) else (laws_FnAdd.j1 kj2 t263 t264 t265 t266 bt267.1 bt267.2.1 bt276.1 bt278.1 bt280.2.1 true)) else (laws_FnAdd.j1 kj2 t263 t264 t265 t266 bt267.1 bt267.2.1 bt276.1 bt278.1 bt280.2.1 true)) else (laws_FnAdd.j1 kj2 t263 t264 t265 t266 bt267.1 bt267.2.1 bt276.1 bt278.1 bt280.2.1 true)) else (laws_FnAdd.j1 kj2 t263 t264 t265 t266 bt267.1 bt267.2.1 bt276.1 bt278.1 bt280.2.1 true))))))))) = some r := H
        have A8 := Aside0.mk A80
        clear A80
        replace H := Option.bind_eq_some_iff.mp H
        obtain ⟨t266, A90, H⟩ := H
        replace H : ((impl_Alu.f 3 t265 t263 t264 t266).bind fun bt267 => ((spec_Alu.f kj2 3 t265 t263 t264 t266).bind fun bt270 => ((impl_Alu.f 4 t265 bt267.1 t264 t266).bind fun bt273 => ((impl_ZeroOf.f t263 t265).bind fun bt276 => ((impl_ZeroOf.f t264 t265).bind fun bt278 => ((impl_Alu.f 8 t265 t263 t264 t266).bind fun bt280 => (if bt267.2.2 = 0 then (if bt267.1 = bt270.1 then (if bt267.2.1 = bt270.2.1 then (if bt273.2.2 = 0 then (if bt273.1 = bt276.1 then (if (Go.bits .and .i64 bt273.2.1 1) = (Go.bits .and .i64 bt267.2.1 1) then (if bt276.2 = 0 then (if bt278.2 = 0 then (if bt280.2.2 = 0 then (laws_FnAdd.j1 kj2 t263 t264 t265 t266 bt267.1 bt267.2.1 bt276.1 bt278.1 bt280.2.1 (bt280.1 != bt276.1)) else (laws_FnAdd.j1 kj2 t263 t264 t265 t266 bt267.1 bt267.2.1 bt276.1 bt278.1 bt280.2.1 true)) else (laws_FnAdd.j1 kj2 t263 t264 t265 t266 bt267.1 bt267.2.1 bt276.1 bt278.1 bt280.2.1 true)) else (laws_FnAdd.j1 kj2 t263 t264 t265 t266 bt267.1 bt267.2.1 bt276.1 bt278.1 bt280.2.1 true)) else (laws_FnAdd.j1 kj2 t263 t264 t265 t266 bt267.1 bt267.2.1 bt276.1 bt278.1 bt280.2.1 true)) else (laws_FnAdd.j1 kj2 t263 t264 t265 t266 bt267.1 bt267.2.1 bt276.1 bt278.1 bt280.2.1 true)) else (laws_FnAdd.j1 kj2 t263 t264 t265 t266 bt267.1 bt267.2.1 bt276.1 bt278.1 bt280.2.1 true)) else (laws_FnAdd.j1 kj2 t263 t264 t265 t266 bt267.1 bt267.2.1 bt276.1 bt278.1 bt280.2.1 true)) else (laws_FnAdd.j1 kj2 t263 t264 t265 t266 bt267.1 bt267.2.1 bt276.1 bt278.1 bt280.2.1 true)) else (laws_FnAdd.j1 kj2 t263 t264 t265 t266 bt267.1 bt267.2.1 bt276.1 bt278.1 bt280.2.1 true)))))))) = some r := H
        have A9 := Aside0.mk A90
        clear A90
        replace H := Option.bind_eq_some_iff.mp H
        obtain ⟨⟨t267, t268, t269⟩, A100, H⟩ := H
        replace H : ((spec_Alu.f kj2 3 t265 t263 t264 t266).bind fun bt270 => ((impl_Alu.f 4 t265 t267 t264 t266).bind fun bt273 => ((impl_ZeroOf.f t263 t265).bind fun bt276 => ((impl_ZeroOf.f t264 t265).bind fun bt278 => ((impl_Alu.f 8 t265 t263 t264 t266).bind fun bt280 => (if t269 = 0 then (if t267 = bt270.1 then (if t268 = bt270.2.1 then (if bt273.2.2 = 0 then (if bt273.1 = bt276.1 then (if (Go.bits .and .i64 bt273.2.1 1) = (Go.bits .and .i64 t268 1) then (if bt276.2 = 0 then (if bt278.2 = 0 then (if bt280.2.2 = 0 then (laws_FnAdd.j1 kj2 t263 t264 t265 t266 t267 t268 bt276.1 bt278.1 bt280.2.1 (bt280.1 != bt276.1)) else (laws_FnAdd.j1 kj2 t263 t264 t265 t266 t267 t268 bt276.1 bt278.1 bt280.2.1 true)) else (laws_FnAdd.j1 kj2 t263 t264 t265 t266 t267 t268 bt276.1 bt278.1 bt280.2.1 true)) else (laws_FnAdd.j1 kj2 t263 t264 t265 t266 t267 t268 bt276.1 bt278.1 bt280.2.1 true)) else (laws_FnAdd.j1 kj2 t263 t264 t265 t266 t267 t268 bt276.1 bt278.1 bt280.2.1 true)) else (laws_FnAdd.j1 kj2 t263 t264 t265 t266 t267 t268 bt276.1 bt278.1 bt280.2.1 true)) else (laws_FnAdd.j1 kj2 t263 t264 t265 t266 t267 t268 bt276.1 bt278.1 bt280.2.1 true)) else (laws_FnAdd.j1 kj2 t263 t264 t265 t266 t267 t268 bt276.1 bt278.1 bt280.2.1 true)) else (laws_FnAdd.j1 kj2 t263 t264 t265 t266 t267 t268 bt276.1 bt278.1 bt280.2.1 true)) else (laws_FnAdd.j1 kj2 t263 t264 t265 t266 t267 t268 bt276.1 bt278.1 bt280.2.1 true))))))) = some r := H
        have A10 := Aside0.mk A100
        clear A100
        replace H := Option.bind_eq_some_iff.mp H
        obtain ⟨⟨t270, t271, t272⟩, A110, H⟩ := H
        replace H : ((impl_Alu.f 4 t265 t267 t264 t266).bind fun bt273 => ((impl_ZeroOf.f t263 t265).bind fun bt276 => ((impl_ZeroOf.f t264 t265).bind fun bt278 => ((impl_Alu.f 8 t265 t263 t264 t266).bind fun bt280 => (if t269 = 0 then (if t267 = t270 then (if t268 = t271 then (if bt273.2.2 = 0 then (if bt273.1 = bt276.1 then (if (Go.bits .and .i64 bt273.2.1 1) = (Go.bits .and .i64 t268 1) then (if bt276.2 = 0 then (if bt278.2 = 0 then (if bt280.2.2 = 0 then (laws_FnAdd.j1 kj2 t263 t264 t265 t266 t267 t268 bt276.1 bt278.1 bt280.2.1 (bt280.1 != bt276.1)) else (laws_FnAdd.j1 kj2 t263 t264 t265 t266 t267 t268 bt276.1 bt278.1 bt280.2.1 true)) else (laws_FnAdd.j1 kj2 t263 t264 t265 t266 t267 t268 bt276.1 bt278.1 bt280.2.1 true)) else (laws_FnAdd.j1 kj2 t263 t264 t265 t266 t267 t268 bt276.1 bt278.1 bt280.2.1 true)) else (laws_FnAdd.j1 kj2 t263 t264 t265 t266 t267 t268 bt276.1 bt278.1 bt280.2.1 true)) else (laws_FnAdd.j1 kj2 t263 t264 t265 t266 t267 t268 bt276.1 bt278.1 bt280.2.1 true)) else (laws_FnAdd.j1 kj2 t263 t264 t265 t266 t267 t268 bt276.1 bt278.1 bt280.2.1 true)) else (laws_FnAdd.j1 kj2 t263 t264 t265 t266 t267 t268 bt276.1 bt278.1 bt280.2.1 true)) else (laws_FnAdd.j1 kj2 t263 t264 t265 t266 t267 t268 bt276.1 bt278.1 bt280.2.1 true)) else (laws_FnAdd.j1 kj2 t263 t264 t265 t266 t267 t268 bt276.1 bt278.1 bt280.2.1 true)))))) = some r := H
        have A11 := Aside0.mk A110
        clear A110
        replace H := Option.bind_eq_some_iff.mp H
        obtain ⟨⟨t273, t274, t275⟩, A120, H⟩ := H
        replace H : ((impl_ZeroOf.f t263 t265).bind fun bt276 => ((impl_ZeroOf.f t264 t265).bind fun bt278 => ((impl_Alu.f 8 t265 t263 t264 t266).bind fun bt280 => (if t269 = 0 then (if t267 = t270 then (if t268 = t271 then (if t275 = 0 then (if t273 = bt276.1 then (if (Go.bits .and .i64 t274 1) = (Go.bits .and .i64 t268 1) then (if bt276.2 = 0 then (if bt278.2 = 0 then (if bt280.2.2 = 0 then (laws_FnAdd.j1 kj2 t263 t264 t265 t266 t267 t268 bt276.1 bt278.1 bt280.2.1 (bt280.1 != bt276.1)) else (laws_FnAdd.j1 kj2 t263 t264 t265 t266 t267 t268 bt276.1 bt278.1 bt280.2.1 true)) else (laws_FnAdd.j1 kj2 t263 t264 t265 t266 t267 t268 bt276.1 bt278.1 bt280.2.1 true)) else (laws_FnAdd.j1 kj2 t263 t264 t265 t266 t267 t268 bt276.1 bt278.1 bt280.2.1 true)) else (laws_FnAdd.j1 kj2 t263 t264 t265 t266 t267 t268 bt276.1 bt278.1 bt280.2.1 true)) else (laws_FnAdd.j1 kj2 t263 t264 t265 t266 t267 t268 bt276.1 bt278.1 bt280.2.1 true)) else (laws_FnAdd.j1 kj2 t263 t264 t265 t266 t267 t268 bt276.1 bt278.1 bt280.2.1 true)) else (laws_FnAdd.j1 kj2 t263 t264 t265 t266 t267 t268 bt276.1 bt278.1 bt280.2.1 true)) else (laws_FnAdd.j1 kj2 t263 t264 t265 t266 t267 t268 bt276.1 bt278.1 bt280.2.1 true)) else (laws_FnAdd.j1 kj2 t263 t264 t265 t266 t267 t268 bt276.1 bt278.1 bt280.2.1 true))))) = some r := H
        have A12 := Aside0.mk A120
        clear A120
        replace H := Option.bind_eq_some_iff.mp H
        obtain ⟨⟨t276, t277⟩, A130, H⟩ := H
        replace H : ((impl_ZeroOf.f t264 t265).bind fun bt278 => ((impl_Alu.f 8 t265 t263 t264 t266).bind fun bt280 => (if t269 = 0 then (if t267 = t270 then (if t268 = t271 then (if t275 = 0 then (if t273 = t276 then (if (Go.bits .and .i64 t274 1) = (Go.bits .and .i64 t268 1) then (if t277 = 0 then (if bt278.2 = 0 then (if bt280.2.2 = 0 then (laws_FnAdd.j1 kj2 t263 t264 t265 t266 t267 t268 t276 bt278.1 bt280.2.1 (bt280.1 != t276)) else (laws_FnAdd.j1 kj2 t263 t264 t265 t266 t267 t268 t276 bt278.1 bt280.2.1 true)) else (laws_FnAdd.j1 kj2 t263 t264 t265 t266 t267 t268 t276 bt278.1 bt280.2.1 true)) else (laws_FnAdd.j1 kj2 t263 t264 t265 t266 t267 t268 t276 bt278.1 bt280.2.1 true)) else (laws_FnAdd.j1 kj2 t263 t264 t265 t266 t267 t268 t276 bt278.1 bt280.2.1 true)) else (laws_FnAdd.j1 kj2 t263 t264 t265 t266 t267 t268 t276 bt278.1 bt280.2.1 true)) else (laws_FnAdd.j1 kj2 t263 t264 t265 t266 t267 t268 t276 bt278.1 bt280.2.1 true)) else (laws_FnAdd.j1 kj2 t263 t264 t265 t266 t267 t268 t276 bt278.1 bt280.2.1 true)) else (laws_FnAdd.j1 kj2 t263 t264 t265 t266 t267 t268 t276 bt278.1 bt280.2.1 true)) else (laws_FnAdd.j1 kj2 t263 t264 t265 t266 t267 t268 t276 bt278.1 bt280.2.1 true)))) = some r := H
        have A13 := Aside0.mk A130
        clear A130
        replace H := Option.bind_eq_some_iff.mp H
        obtain ⟨⟨t278, t279⟩, A140, H⟩ := H
        replace H : ((impl_Alu.f 8 t265 t263 t264 t266).bind fun bt280 => (if t269 = 0 then (if t267 = t270 then (if t268 = t271 then (if t275 = 0 then (if t273 = t276 then (if (Go.bits .and .i64 t274 1) = (Go.bits .and .i64 t268 1) then (if t277 = 0 then (if t279 = 0 then (if bt280.2.2 = 0 then (laws_FnAdd.j1 kj2 t263 t264 t265 t266 t267 t268 t276 t278 bt280.2.1 (bt280.1 != t276)) else (laws_FnAdd.j1 kj2 t263 t264 t265 t266 t267 t268 t276 t278 bt280.2.1 true)) else (laws_FnAdd.j1 kj2 t263 t264 t265 t266 t267 t268 t276 t278 bt280.2.1 true)) else (laws_FnAdd.j1 kj2 t263 t264 t265 t266 t267 t268 t276 t278 bt280.2.1 true)) else (laws_FnAdd.j1 kj2 t263 t264 t265 t266 t267 t268 t276 t278 bt280.2.1 true)) else (laws_FnAdd.j1 kj2 t263 t264 t265 t266 t267 t268 t276 t278 bt280.2.1 true)) else (laws_FnAdd.j1 kj2 t263 t264 t265 t266 t267 t268 t276 t278 bt280.2.1 true)) else (laws_FnAdd.j1 kj2 t263 t264 t265 t266 t267 t268 t276 t278 bt280.2.1 true)) else (laws_FnAdd.j1 kj2 t263 t264 t265 t266 t267 t268 t276 t278 bt280.2.1 true)) else (laws_FnAdd.j1 kj2 t263 t264 t265 t266 t267 t268 t276 t278 bt280.2.1 true))) = some r := H
        have A14 := Aside0.mk A140
        clear A140
        replace H := Option.bind_eq_some_iff.mp H
        obtain ⟨⟨t280, t281, t282⟩, A150, H⟩ := H
        replace H : (if t269 = 0 then (if t267 = t270 then (if t268 = t271 then (if t275 = 0 then (if t273 = t276 then (if (Go.bits .and .i64 t274 1) = (Go.bits .and .i64 t268 1) then (if t277 = 0 then (if t279 = 0 then (if t282 = 0 then (laws_FnAdd.j1 kj2 t263 t264 t265 t266 t267 t268 t276 t278 t281 (t280 != t276)) else (laws_FnAdd.j1 kj2 t263 t264 t265 t266 t267 t268 t276 t278 t281 true)) else (laws_FnAdd.j1 kj2 t263 t264 t265 t266 t267 t268 t276 t278 t281 true)) else (laws_FnAdd.j1 kj2 t263 t264 t265 t266 t267 t268 t276 t278 t281 true)) else (laws_FnAdd.j1 kj2 t263 t264 t265 t266 t267 t268 t276 t278 t281 true)) else (laws_FnAdd.j1 kj2 t263 t264 t265 t266 t267 t268 t276 t278 t281 true)) else (laws_FnAdd.j1 kj2 t263 t264 t265 t266 t267 t268 t276 t278 t281 true)) else (laws_FnAdd.j1 kj2 t263 t264 t265 t266 t267 t268 t276 t278 t281 true)) else (laws_FnAdd.j1 kj2 t263 t264 t265 t266 t267 t268 t276 t278 t281 true)) else (laws_FnAdd.j1 kj2 t263 t264 t265 t266 t267 t268 t276 t278 t281 true)) = some r := H
        have A15 := Aside0.mk A150
        clear A150
        have HC16 := Aside0.mk H
        clear H
        go_upto_region 13 with (first | ((with_reducible refine gate_callee (f := 53) rfl ?_); refine goesL_ (some 44) rfl rfl Try.func53 (by kernel_rfl) rfl #[.slice A0 l0.length c0] rfl (by (try simp only [List.map_toArray, List.map_cons, List.map_nil]); first | done | rfl | (simp only [List.length_drop, List.length_take]; rfl)) ?_; (with_reducible refine (spec_NumberOf.calls _ _ l0 t263 _ ?side1 ?side2 A6.out).mono ?_); (case side1 => repeat (first | exact (Kd.C_below HR0.out HB.out) | (with_reducible refine Kd.C_alloc ?_ _) | (with_reducible refine Kd.C_drewN ?_ _) | (with_reducible refine Kd.C_drew ?_))); (case side2 => exact HC0.out); rintro e w17 ⟨rfl, hb⟩; refine ⟨_, rfl, ?_⟩; have n0_ := Aside0.mk (below_step (by repeat (first | (with_reducible first | exact HB.out | apply below_alloc | apply pw_below_drewN | apply below_drew1) | exact HB.out)) hb); clear HB; have HB := n0_; clear n0_; (try clear hb); (try clear hb2); (try clear hk); (try clear hi)) | ((with_reducible refine gate_callee (f := 53) rfl ?_); refine goesL_ (some 46) rfl rfl Try.func53 (by kernel_rfl) rfl #[.slice A1 l1.length c1] rfl (by (try simp only [List.map_toArray, List.map_cons, List.map_nil]); first | done | rfl | (simp only [List.length_drop, List.length_take]; rfl)) ?_; (with_reducible refine (spec_NumberOf.calls _ _ l1 t264 _ ?side1 ?side2 A7.out).mono ?_); (case side1 => repeat (first | exact (Kd.C_below HR1.out HB.out) | (with_reducible refine Kd.C_alloc ?_ _) | (with_reducible refine Kd.C_drewN ?_ _) | (with_reducible refine Kd.C_drew ?_))); (case side2 => exact HC1.out); rintro e w18 ⟨rfl, hb⟩; refine ⟨_, rfl, ?_⟩; have n0_ := Aside0.mk (below_step (by repeat (first | (with_reducible first | exact HB.out | apply below_alloc | apply pw_below_drewN | apply below_drew1) | exact HB.out)) hb); clear HB; have HB := n0_; clear n0_; (try clear hb); (try clear hb2); (try clear hk); (try clear hi)) | ((with_reducible refine gate_callee (f := 54) rfl ?_); refine goesL_ (some 48) rfl rfl Try.func54 (by kernel_rfl) rfl #[.slice A1 l1.length c1, .int .i64 0] rfl (by (try simp only [List.map_toArray, List.map_cons, List.map_nil]); first | done | rfl | (simp only [List.length_drop, List.length_take]; rfl)) ?_; (with_reducible refine (laws_sizeAt.calls _ _ l1 0 t265 _ ?side1 ?side2 A8.out).mono ?_); (case side1 => repeat (first | exact (Kd.C_below HR1.out HB.out) | (with_reducible refine Kd.C_alloc ?_ _) | (with_reducible refine Kd.C_drewN ?_ _) | (with_reducible refine Kd.C_drew ?_))); (case side2 => exact HC1.out); rintro e w19 ⟨rfl, hb⟩; refine ⟨_, rfl, ?_⟩; have n0_ := Aside0.mk (below_step (by repeat (first | (with_reducible first | exact HB.out | apply below_alloc | apply pw_below_drewN | apply below_drew1) | exact HB.out)) hb); clear HB; have HB := n0_; clear n0_; (try clear hb); (try clear hb2); (try clear hk); (try clear hi)) | ((with_reducible refine gate_callee (f := 55) rfl ?_); refine goesL_ (some 50) rfl rfl Try.func55 (by kernel_rfl) rfl #[.slice A0 l0.length c0] rfl (by (try simp only [List.map_toArray, List.map_cons, List.map_nil]); first | done | rfl | (simp only [List.length_drop, List.length_take]; rfl)) ?_; (with_reducible refine (spec_FlagsDrawn.calls kj2 _ _ l0 t266 _ ?side1 ?side2 A9.out).mono ?_); (case side1 => repeat (first | exact (Kd.C_below HR0.out HB.out) | (with_reducible refine Kd.C_alloc ?_ _) | (with_reducible refine Kd.C_drewN ?_ _) | (with_reducible refine Kd.C_drew ?_))); (case side2 => exact HC0.out); rintro e w20 ⟨rfl, hb⟩; refine ⟨_, rfl, ?_⟩; have n0_ := Aside0.mk (below_step (by repeat (first | (with_reducible first | exact HB.out | apply below_alloc | apply pw_below_drewN | apply below_drew1) | exact HB.out)) hb); clear HB; have HB := n0_; clear n0_; (try clear hb); (try clear hb2); (try clear hk); (try clear hi)) | ((with_reducible refine gate_callee (f := 57) rfl ?_); refine goesL_ (some 56) rfl rfl Try.func57 (by kernel_rfl) rfl #[.int .i64 3, .int .i64 t265, .int .i64 t263, .int .i64 t264, .int .i64 t266] rfl (by (try simp only [List.map_toArray, List.map_cons, List.map_nil]); first | done | rfl | (simp only [List.length_drop, List.length_take]; rfl)) ?_; (with_reducible refine (impl_Alu.calls 3 t265 t263 t264 t266 t267 t268 t269 _ A10.out).mono ?_); rintro e w' ⟨rfl, ⟨nd, rfl⟩⟩; refine ⟨_, rfl, ?_⟩) | ((with_reducible refine gate_callee (f := 62) rfl ?_); refine goesL_ (some 65) rfl rfl Try.func62 (by kernel_rfl) rfl #[.int .i64 3, .int .i64 t265, .int .i64 t263, .int .i64 t264, .int .i64 t266] rfl (by (try simp only [List.map_toArray, List.map_cons, List.map_nil]); first | done | rfl | (simp only [List.length_drop, List.length_take]; rfl)) ?_; (with_reducible refine (spec_Alu.calls kj2 3 t265 t263 t264 t266 t270 t271 t272 _ A11.out).mono ?_); rintro e w' ⟨rfl, ⟨nd, rfl⟩⟩; refine ⟨_, rfl, ?_⟩) | ((with_reducible refine gate_callee (f := 57) rfl ?_); refine goesL_ (some 74) rfl rfl Try.func57 (by kernel_rfl) rfl #[.int .i64 4, .int .i64 t265, .int .i64 t267, .int .i64 t264, .int .i64 t266] rfl (by (try simp only [List.map_toArray, List.map_cons, List.map_nil]); first | done | rfl | (simp only [List.length_drop, List.length_take]; rfl)) ?_; (with_reducible refine (impl_Alu.calls 4 t265 t267 t264 t266 t273 t274 t275 _ A12.out).mono ?_); rintro e w' ⟨rfl, ⟨nd, rfl⟩⟩; refine ⟨_, rfl, ?_⟩) | ((with_reducible refine gate_callee (f := 63) rfl ?_); refine goesL_ (some 81) rfl rfl Try.func63 (by kernel_rfl) rfl #[.int .i64 t263, .int .i64 t265] rfl (by (try simp only [List.map_toArray, List.map_cons, List.map_nil]); first | done | rfl | (simp only [List.length_drop, List.length_take]; rfl)) ?_; (with_reducible refine (impl_ZeroOf.calls t263 t265 t276 t277 _ A13.out).mono ?_); rintro e w' ⟨rfl, ⟨nd, rfl⟩⟩; refine ⟨_, rfl, ?_⟩) | ((with_reducible refine gate_callee (f := 63) rfl ?_); refine goesL_ (some 87) rfl rfl Try.func63 (by kernel_rfl) rfl #[.int .i64 t264, .int .i64 t265] rfl (by (try simp only [List.map_toArray, List.map_cons, List.map_nil]); first | done | rfl | (simp only [List.length_drop, List.length_take]; rfl)) ?_; (with_reducible refine (impl_ZeroOf.calls t264 t265 t278 t279 _ A14.out).mono ?_); rintro e w' ⟨rfl, ⟨nd, rfl⟩⟩; refine ⟨_, rfl, ?_⟩) | ((with_reducible refine gate_callee (f := 57) rfl ?_); refine goesL_ (some 95) rfl rfl Try.func57 (by kernel_rfl) rfl #[.int .i64 8, .int .i64 t265, .int .i64 t263, .int .i64 t264, .int .i64 t266] rfl (by (try simp only [List.map_toArray, List.map_cons, List.map_nil]); first | done | rfl | (simp only [List.length_drop, List.length_take]; rfl)) ?_; (with_reducible refine (impl_Alu.calls 8 t265 t263 t264 t266 t280 t281 t282 _ A15.out).mono ?_); rintro e w' ⟨rfl, ⟨nd, rfl⟩⟩; refine ⟨_, rfl, ?_⟩))
        (try simp only [Act.put, List.setIfInBounds_toArray, List.set_cons_zero, List.set_cons_succ])
        go_cut [143] (fun v143 wc => ∃ (kq : Nat) (x143_15 : Bool), v143 = .bool x143_15 ∧ Aside0 (laws_FnAdd.j1 kq t263 t264 t265 t266 t267 t268 t276 t278 t281 x143_15 = some r) ∧ Aside0 (kq ≤ kj2) ∧ Aside0 (Below w.heap.size w wc))
        case first =>
          have H := HC16.out
          clear HC16
          by_cases c21 : t269 = 0
          · rw [if_pos c21] at H
            have c21b0 : (t269 == 0) = true := beq_iff_eq.mpr c21
            have c21b1 : (t269 != 0) = false := bne_eq_false_iff_eq.mpr c21
            clear c21
            (first | rw [c21b0] | (simp only [i64_w, i32_w]; rw [c21b0]) | rw [c21b1] | skip)
            by_cases c22 : t267 = t270
            · rw [if_pos c22] at H
              have c22b0 : (t267 == t270) = true := beq_iff_eq.mpr c22
              have c22b1 : (t267 != t270) = false := bne_eq_false_iff_eq.mpr c22
              clear c22
              by_cases c23 : t268 = t271
              · rw [if_pos c23] at H
                have c23b0 : (t268 == t271) = true := beq_iff_eq.mpr c23
                have c23b1 : (t268 != t271) = false := bne_eq_false_iff_eq.mpr c23
                clear c23
                by_cases c24 : t275 = 0
                · rw [if_pos c24] at H
                  have c24b0 : (t275 == 0) = true := beq_iff_eq.mpr c24
                  have c24b1 : (t275 != 0) = false := bne_eq_false_iff_eq.mpr c24
                  clear c24
                  by_cases c25 : t273 = t276
                  · rw [if_pos c25] at H
                    have c25b0 : (t273 == t276) = true := beq_iff_eq.mpr c25
                    have c25b1 : (t273 != t276) = false := bne_eq_false_iff_eq.mpr c25
                    clear c25
                    by_cases c26 : (Go.bits .and .i64 t274 1) = (Go.bits .and .i64 t268 1)
                    · rw [if_pos c26] at H
                      have c26b0 : ((Go.bits .and .i64 t274 1) == (Go.bits .and .i64 t268 1)) = true := beq_iff_eq.mpr c26
                      have c26b1 : ((Go.bits .and .i64 t274 1) != (Go.bits .and .i64 t268 1)) = false := bne_eq_false_iff_eq.mpr c26
                      clear c26
                      by_cases c27 : t277 = 0
                      · rw [if_pos c27] at H
                        have c27b0 : (t277 == 0) = true := beq_iff_eq.mpr c27
                        have c27b1 : (t277 != 0) = false := bne_eq_false_iff_eq.mpr c27
                        clear c27
                        by_cases c28 : t279 = 0
                        · rw [if_pos c28] at H
                          have c28b0 : (t279 == 0) = true := beq_iff_eq.mpr c28
                          have c28b1 : (t279 != 0) = false := bne_eq_false_iff_eq.mpr c28
                          clear c28
                          by_cases c29 : t282 = 0
                          · rw [if_pos c29] at H
                            have c29b0 : (t282 == 0) = true := beq_iff_eq.mpr c29
                            have c29b1 : (t282 != 0) = false := bne_eq_false_iff_eq.mpr c29
                            clear c29
                            have H' := Aside0.mk H
                            clear H
                            go_wp2
                            go_meet
                            case rel => exact ⟨_, ((t280 != t276)), (by first | rfl | (simp; done) | (simp [*]; done)), H', ⟨by have := HJ2.out; first | omega | exact Nat.le_refl _⟩, ⟨by repeat (first | (with_reducible first | exact HB.out | apply below_alloc | apply pw_below_drewN | apply below_drew1) | exact HB.out)⟩⟩
                          · rw [if_neg c29] at H
                            have c29b0 : (t282 == 0) = false := beq_eq_false_iff_ne.mpr c29
                            have c29b1 : (t282 != 0) = true := bne_iff_ne.mpr c29
                            first
                              | exact absurd ((laws_FnAdd.j1_no H).symm.trans HR_.out) (by decide)
                              | (have H' := Aside0.mk H
                                 clear H
                                 go_wp2
                                 go_meet
                                 case rel => exact ⟨_, (true), (by first | rfl | (simp; done) | (simp [*]; done)), H', ⟨by have := HJ2.out; first | omega | exact Nat.le_refl _⟩, ⟨by repeat (first | (with_reducible first | exact HB.out | apply below_alloc | apply pw_below_drewN | apply below_drew1) | exact HB.out)⟩⟩)
                        · rw [if_neg c28] at H
                          have c28b0 : (t279 == 0) = false := beq_eq_false_iff_ne.mpr c28
                          have c28b1 : (t279 != 0) = true := bne_iff_ne.mpr c28
                          first
                            | exact absurd ((laws_FnAdd.j1_no H).symm.trans HR_.out) (by decide)
                            | (have H' := Aside0.mk H
                               clear H
                               go_wp2
                               go_meet
                               case rel => exact ⟨_, (true), (by first | rfl | (simp; done) | (simp [*]; done)), H', ⟨by have := HJ2.out; first | omega | exact Nat.le_refl _⟩, ⟨by repeat (first | (with_reducible first | exact HB.out | apply below_alloc | apply pw_below_drewN | apply below_drew1) | exact HB.out)⟩⟩)
                      · rw [if_neg c27] at H
                        have c27b0 : (t277 == 0) = false := beq_eq_false_iff_ne.mpr c27
                        have c27b1 : (t277 != 0) = true := bne_iff_ne.mpr c27
                        first
                          | exact absurd ((laws_FnAdd.j1_no H).symm.trans HR_.out) (by decide)
                          | (have H' := Aside0.mk H
                             clear H
                             go_wp2
                             go_meet
                             case rel => exact ⟨_, (true), (by first | rfl | (simp; done) | (simp [*]; done)), H', ⟨by have := HJ2.out; first | omega | exact Nat.le_refl _⟩, ⟨by repeat (first | (with_reducible first | exact HB.out | apply below_alloc | apply pw_below_drewN | apply below_drew1) | exact HB.out)⟩⟩)
                    · rw [if_neg c26] at H
                      have c26b0 : ((Go.bits .and .i64 t274 1) == (Go.bits .and .i64 t268 1)) = false := beq_eq_false_iff_ne.mpr c26
                      have c26b1 : ((Go.bits .and .i64 t274 1) != (Go.bits .and .i64 t268 1)) = true := bne_iff_ne.mpr c26
                      first
                        | exact absurd ((laws_FnAdd.j1_no H).symm.trans HR_.out) (by decide)
                        | (have H' := Aside0.mk H
                           clear H
                           go_wp2
                           go_meet
                           case rel => exact ⟨_, (true), (by first | rfl | (simp; done) | (simp [*]; done)), H', ⟨by have := HJ2.out; first | omega | exact Nat.le_refl _⟩, ⟨by repeat (first | (with_reducible first | exact HB.out | apply below_alloc | apply pw_below_drewN | apply below_drew1) | exact HB.out)⟩⟩)
                  · rw [if_neg c25] at H
                    have c25b0 : (t273 == t276) = false := beq_eq_false_iff_ne.mpr c25
                    have c25b1 : (t273 != t276) = true := bne_iff_ne.mpr c25
                    first
                      | exact absurd ((laws_FnAdd.j1_no H).symm.trans HR_.out) (by decide)
                      | (have H' := Aside0.mk H
                         clear H
                         go_wp2
                         go_meet
                         case rel => exact ⟨_, (true), (by first | rfl | (simp; done) | (simp [*]; done)), H', ⟨by have := HJ2.out; first | omega | exact Nat.le_refl _⟩, ⟨by repeat (first | (with_reducible first | exact HB.out | apply below_alloc | apply pw_below_drewN | apply below_drew1) | exact HB.out)⟩⟩)
                · rw [if_neg c24] at H
                  have c24b0 : (t275 == 0) = false := beq_eq_false_iff_ne.mpr c24
                  have c24b1 : (t275 != 0) = true := bne_iff_ne.mpr c24
                  first
                    | exact absurd ((laws_FnAdd.j1_no H).symm.trans HR_.out) (by decide)
                    | (have H' := Aside0.mk H
                       clear H
                       go_wp2
                       go_meet
                       case rel => exact ⟨_, (true), (by first | rfl | (simp; done) | (simp [*]; done)), H', ⟨by have := HJ2.out; first | omega | exact Nat.le_refl _⟩, ⟨by repeat (first | (with_reducible first | exact HB.out | apply below_alloc | apply pw_below_drewN | apply below_drew1) | exact HB.out)⟩⟩)
              · rw [if_neg c23] at H
                have c23b0 : (t268 == t271) = false := beq_eq_false_iff_ne.mpr c23
                have c23b1 : (t268 != t271) = true := bne_iff_ne.mpr c23
                first
                  | exact absurd ((laws_FnAdd.j1_no H).symm.trans HR_.out) (by decide)
                  | (have H' := Aside0.mk H
                     clear H
                     go_wp2
                     go_meet
                     case rel => exact ⟨_, (true), (by first | rfl | (simp; done) | (simp [*]; done)), H', ⟨by have := HJ2.out; first | omega | exact Nat.le_refl _⟩, ⟨by repeat (first | (with_reducible first | exact HB.out | apply below_alloc | apply pw_below_drewN | apply below_drew1) | exact HB.out)⟩⟩)
            · rw [if_neg c22] at H
              have c22b0 : (t267 == t270) = false := beq_eq_false_iff_ne.mpr c22
              have c22b1 : (t267 != t270) = true := bne_iff_ne.mpr c22
              first
                | exact absurd ((laws_FnAdd.j1_no H).symm.trans HR_.out) (by decide)
                | (have H' := Aside0.mk H
                   clear H
                   go_wp2
                   go_meet
                   case rel => exact ⟨_, (true), (by first | rfl | (simp; done) | (simp [*]; done)), H', ⟨by have := HJ2.out; first | omega | exact Nat.le_refl _⟩, ⟨by repeat (first | (with_reducible first | exact HB.out | apply below_alloc | apply pw_below_drewN | apply below_drew1) | exact HB.out)⟩⟩)
          · rw [if_neg c21] at H
            have c21b0 : (t269 == 0) = false := beq_eq_false_iff_ne.mpr c21
            have c21b1 : (t269 != 0) = true := bne_iff_ne.mpr c21
            (first | rw [c21b0] | (simp only [i64_w, i32_w]; rw [c21b0]) | rw [c21b1] | skip)
            first
              | exact absurd ((laws_FnAdd.j1_no H).symm.trans HR_.out) (by decide)
              | (have H' := Aside0.mk H
                 clear H
                 go_wp2
                 go_meet
                 case rel => exact ⟨_, (true), (by first | rfl | (simp; done) | (simp [*]; done)), H', ⟨by have := HJ2.out; first | omega | exact Nat.le_refl _⟩, ⟨by repeat (first | (with_reducible first | exact HB.out | apply below_alloc | apply pw_below_drewN | apply below_drew1) | exact HB.out)⟩⟩)
        case rest =>
          clear HC16
          (try clear c1); (try clear c4); (try clear c4b0); (try clear c4b1); (try clear c5); (try clear c21); (try clear c21b0); (try clear c21b1); (try clear c22); (try clear c22b0); (try clear c22b1); (try clear c23); (try clear c23b0); (try clear c23b1); (try clear c24); (try clear c24b0); (try clear c24b1); (try clear c25); (try clear c25b0); (try clear c25b1); (try clear c26); (try clear c26b0); (try clear c26b1); (try clear c27); (try clear c27b0); (try clear c27b1); (try clear c28); (try clear c28b0); (try clear c28b1); (try clear c29); (try clear c29b0); (try clear c29b1)
          obtain ⟨kq, x143_15, rfl, HA, HJ15, HB⟩ := hcut
          cases kq with
          | zero => exact absurd HA.out (by simp [laws_FnAdd.j1])
          | succ kj15 =>
            have H := HA.out
            clear HA
            simp only [laws_FnAdd.j1] at H
            by_cases c30 : x143_15 = true
            · subst c30
              have H1 : (some false) = some r := by rw [if_pos rfl] at H; exact H
              clear H
              have H := H1
              clear H1
              first | exact absurd ((Option.some.inj H).trans HR_.out) (by decide) | exact laws_FnAdd.e0
            · replace c30 := Bool.eq_false_iff.mpr c30
              subst c30
              have H1 : ((impl_Holds.f 2 t281).bind fun bt283 => ((impl_Holds.f 4 t281).bind fun bt285 => ((impl_Holds.f 12 t281).bind fun bt287 => ((impl_SignOf.f t263 t265).bind fun bt289 => ((impl_SignOf.f t264 t265).bind fun bt291 => (if bt283.2 = 0 then ((impl_BelowU.f t276 t278).bind fun t293 => (if (bt283.1 == t293) = true then (if bt285.2 = 0 then (if (bt285.1 == (t276 == t278)) = true then (if bt287.2 = 0 then (if bt289.2 = 0 then (if bt291.2 = 0 then (if (bt287.1 == (decide (bt289.1 < bt291.1))) = true then (if t265 = 8 then (some true) else (if 0 ≤ (IntKind.u64.wrap (wrap64 (8 * t265))) then (some ((wrap64 (t267 + (shl .i64 (Go.bits .and .i64 t268 1) (IntKind.u64.wrap (wrap64 (8 * t265)))))) == (wrap64 ((wrap64 (t276 + t278)) + (Go.bits .and .i64 t266 1))))) else (none))) else (some false)) else (some false)) else (some false)) else (some false)) else (some false)) else (some false)) else (some false))) else (some false))))))) = some r := by rw [if_neg (show ¬ (false = true) by decide)] at H; exact H
              clear H
              have H := H1
              clear H1
              replace H := Option.bind_eq_some_iff.mp H
              obtain ⟨⟨t283, t284⟩, A310, H⟩ := H
              replace H : ((impl_Holds.f 4 t281).bind fun bt285 => ((impl_Holds.f 12 t281).bind fun bt287 => ((impl_SignOf.f t263 t265).bind fun bt289 => ((impl_SignOf.f t264 t265).bind fun bt291 => (if t284 = 0 then ((impl_BelowU.f t276 t278).bind fun t293 => (if (t283 == t293) = true then (if bt285.2 = 0 then (if (bt285.1 == (t276 == t278)) = true then (if bt287.2 = 0 then (if bt289.2 = 0 then (if bt291.2 = 0 then (if (bt287.1 == (decide (bt289.1 < bt291.1))) = true then (if t265 = 8 then (some true) else (if 0 ≤ (IntKind.u64.wrap (wrap64 (8 * t265))) then (some ((wrap64 (t267 + (shl .i64 (Go.bits .and .i64 t268 1) (IntKind.u64.wrap (wrap64 (8 * t265)))))) == (wrap64 ((wrap64 (t276 + t278)) + (Go.bits .and .i64 t266 1))))) else (none))) else (some false)) else (some false)) else (some false)) else (some false)) else (some false)) else (some false)) else (some false))) else (some false)))))) = some r := H
              have A31 := Aside0.mk A310
              clear A310
              replace H := Option.bind_eq_some_iff.mp H
              obtain ⟨⟨t285, t286⟩, A320, H⟩ := H
              replace H : ((impl_Holds.f 12 t281).bind fun bt287 => ((impl_SignOf.f t263 t265).bind fun bt289 => ((impl_SignOf.f t264 t265).bind fun bt291 => (if t284 = 0 then ((impl_BelowU.f t276 t278).bind fun t293 => (if (t283 == t293) = true then (if t286 = 0 then (if (t285 == (t276 == t278)) = true then (if bt287.2 = 0 then (if bt289.2 = 0 then (if bt291.2 = 0 then (if (bt287.1 == (decide (bt289.1 < bt291.1))) = true then (if t265 = 8 then (some true) else (if 0 ≤ (IntKind.u64.wrap (wrap64 (8 * t265))) then (some ((wrap64 (t267 + (shl .i64 (Go.bits .and .i64 t268 1) (IntKind.u64.wrap (wrap64 (8 * t265)))))) == (wrap64 ((wrap64 (t276 + t278)) + (Go.bits .and .i64 t266 1))))) else (none))) else (some false)) else (some false)) else (some false)) else (some false)) else (some false)) else (some false)) else (some false))) else (some false))))) = some r := H
              have A32 := Aside0.mk A320
              clear A320
              replace H := Option.bind_eq_some_iff.mp H
              obtain ⟨⟨t287, t288⟩, A330, H⟩ := H
              replace H : ((impl_SignOf.f t263 t265).bind fun bt289 => ((impl_SignOf.f t264 t265).bind fun bt291 => (if t284 = 0 then ((impl_BelowU.f t276 t278).bind fun t293 => (if (t283 == t293) = true then (if t286 = 0 then (if (t285 == (t276 == t278)) = true then (if t288 = 0 then (if bt289.2 = 0 then (if bt291.2 = 0 then (if (t287 == (decide (bt289.1 < bt291.1))) = true then (if t265 = 8 then (some true) else (if 0 ≤ (IntKind.u64.wrap (wrap64 (8 * t265))) then (some ((wrap64 (t267 + (shl .i64 (Go.bits .and .i64 t268 1) (IntKind.u64.wrap (wrap64 (8 * t265)))))) == (wrap64 ((wrap64 (t276 + t278)) + (Go.bits .and .i64 t266 1))))) else (none))) else (some false)) else (some false)) else (some false)) else (some false)) else (some false)) else (some false)) else (some false))) else (some false)))) = some r := H
              have A33 := Aside0.mk A330
              clear A330
              replace H := Option.bind_eq_some_iff.mp H
              obtain ⟨⟨t289, t290⟩, A340, H⟩ := H
              replace H : ((impl_SignOf.f t264 t265).bind fun bt291 => (if t284 = 0 then ((impl_BelowU.f t276 t278).bind fun t293 => (if (t283 == t293) = true then (if t286 = 0 then (if (t285 == (t276 == t278)) = true then (if t288 = 0 then (if t290 = 0 then (if bt291.2 = 0 then (if (t287 == (decide (t289 < bt291.1))) = true then (if t265 = 8 then (some true) else (if 0 ≤ (IntKind.u64.wrap (wrap64 (8 * t265))) then (some ((wrap64 (t267 + (shl .i64 (Go.bits .and .i64 t268 1) (IntKind.u64.wrap (wrap64 (8 * t265)))))) == (wrap64 ((wrap64 (t276 + t278)) + (Go.bits .and .i64 t266 1))))) else (none))) else (some false)) else (some false)) else (some false)) else (some false)) else (some false)) else (some false)) else (some false))) else (some false))) = some r := H
              have A34 := Aside0.mk A340
              clear A340
              replace H := Option.bind_eq_some_iff.mp H
              obtain ⟨⟨t291, t292⟩, A350, H⟩ := H
              replace H : (if t284 = 0 then ((impl_BelowU.f t276 t278).bind fun t293 => (if (t283 == t293) = true then (if t286 = 0 then (if (t285 == (t276 == t278)) = true then (if t288 = 0 then (if t290 = 0 then (if t292 = 0 then (if (t287 == (decide (t289 < t291))) = true then (if t265 = 8 then (some true) else (if 0 ≤ (IntKind.u64.wrap (wrap64 (8 * t265))) then (some ((wrap64 (t267 + (shl .i64 (Go.bits .and .i64 t268 1) (IntKind.u64.wrap (wrap64 (8 * t265)))))) == (wrap64 ((wrap64 (t276 + t278)) + (Go.bits .and .i64 t266 1))))) else (none))) else (some false)) else (some false)) else (some false)) else (some false)) else (some false)) else (some false)) else (some false))) else (some false)) = some r := H
              have A35 := Aside0.mk A350
              clear A350
              by_cases c36 : t284 = 0
              · rw [if_pos c36] at H
                have c36b0 : (t284 == 0) = true := beq_iff_eq.mpr c36
                have c36b1 : (t284 != 0) = false := bne_eq_false_iff_eq.mpr c36
                clear c36
                replace H := Option.bind_eq_some_iff.mp H
                obtain ⟨t293, A370, H⟩ := H
                replace H : (if (t283 == t293) = true then (if t286 = 0 then (if (t285 == (t276 == t278)) = true then (if t288 = 0 then (if t290 = 0 then (if t292 = 0 then (if (t287 == (decide (t289 < t291))) = true then (if t265 = 8 then (some true) else (if 0 ≤ (IntKind.u64.wrap (wrap64 (8 * t265))) then (some ((wrap64 (t267 + (shl .i64 (Go.bits .and .i64 t268 1) (IntKind.u64.wrap (wrap64 (8 * t265)))))) == (wrap64 ((wrap64 (t276 + t278)) + (Go.bits .and .i64 t266 1))))) else (none))) else (some false)) else (some false)) else (some false)) else (some false)) else (some false)) else (some false)) else (some false)) = some r := H
                have A37 := Aside0.mk A370
                clear A370
                by_cases c38 : (t283 == t293) = true
                · rw [if_pos c38] at H
                  have c38b0 : (t283 == t293) = true := c38
                  (try (have c38b1 : decide (t283 = t293) = true := by simpa using c38))
                  (try (have c38b2 : (t283 == t293) = true := by simpa using c38))
                  clear c38
                  by_cases c39 : t286 = 0
                  · rw [if_pos c39] at H
                    have c39b0 : (t286 == 0) = true := beq_iff_eq.mpr c39
                    have c39b1 : (t286 != 0) = false := bne_eq_false_iff_eq.mpr c39
                    clear c39
                    by_cases c40 : (t285 == (t276 == t278)) = true
                    · rw [if_pos c40] at H
                      have c40b0 : (t285 == (t276 == t278)) = true := c40
                      (try (have c40b1 : decide (t285 = (t276 == t278)) = true := by simpa using c40))
                      (try (have c40b2 : (t285 == (t276 == t278)) = true := by simpa using c40))
                      clear c40
                      by_cases c41 : t288 = 0
                      · rw [if_pos c41] at H
                        have c41b0 : (t288 == 0) = true := beq_iff_eq.mpr c41
                        have c41b1 : (t288 != 0) = false := bne_eq_false_iff_eq.mpr c41
                        clear c41
                        by_cases c42 : t290 = 0
                        · rw [if_pos c42] at H
                          have c42b0 : (t290 == 0) = true := beq_iff_eq.mpr c42
                          have c42b1 : (t290 != 0) = false := bne_eq_false_iff_eq.mpr c42
                          clear c42
                          by_cases c43 : t292 = 0
                          · rw [if_pos c43] at H
                            have c43b0 : (t292 == 0) = true := beq_iff_eq.mpr c43
                            have c43b1 : (t292 != 0) = false := bne_eq_false_iff_eq.mpr c43
                            clear c43
                            by_cases c44 : (t287 == (decide (t289 < t291))) = true
                            · rw [if_pos c44] at H
                              have c44b0 : (t287 == (decide (t289 < t291))) = true := c44
                              (try (have c44b1 : decide (t287 = (decide (t289 < t291))) = true := by simpa using c44))
                              (try (have c44b2 : (t287 == (decide (t289 < t291))) = true := by simpa using c44))
                              clear c44
                              by_cases c45 : t265 = 8
                              · rw [if_pos c45] at H
                                have c45b0 : (t265 == 8) = true := beq_iff_eq.mpr c45
                                have c45b1 : (t265 != 8) = false := bne_eq_false_iff_eq.mpr c45
                                clear c45
                                first | exact absurd ((Option.some.inj H).trans HR_.out) (by decide) | exact laws_FnAdd.e1
                              · rw [if_neg c45] at H
                                have c45b0 : (t265 == 8) = false := beq_eq_false_iff_ne.mpr c45
                                have c45b1 : (t265 != 8) = true := bne_iff_ne.mpr c45
                                obtain ⟨ji49, hji49⟩ : ∃ j_ : Int, (IntKind.u64.wrap (wrap64 (8 * t265))) = j_ := ⟨_, rfl⟩
                                replace H : (if 0 ≤ (ji49) then (some ((wrap64 (t267 + (shl .i64 (Go.bits .and .i64 t268 1) (ji49)))) == (wrap64 ((wrap64 (t276 + t278)) + (Go.bits .and .i64 t266 1))))) else (none)) = some r := by first | (rw [hji49] at H; exact H) | (simp only [hji49] at H ⊢; exact H)
                                (try rw [hji49] at A31)
                                (try rw [hji49] at A32)
                                (try rw [hji49] at A33)
                                (try rw [hji49] at A34)
                                (try rw [hji49] at A35)
                                (try rw [hji49] at A37)
                                by_cases c50 : 0 ≤ (ji49)
                                · rw [if_pos c50] at H
                                  have c50b0 := eq_true c50
                                  have c50b1 : decide (0 ≤ (ji49)) = true := decide_eq_true c50
                                  clear c50
                                  obtain ⟨ji51, hji51⟩ : ∃ j_ : Int, (shl .i64 (Go.bits .and .i64 t268 1) (ji49)) = j_ := ⟨_, rfl⟩
                                  replace H : (some ((wrap64 (t267 + (ji51))) == (wrap64 ((wrap64 (t276 + t278)) + (Go.bits .and .i64 t266 1))))) = some r := by first | (rw [hji51] at H; exact H) | (simp only [hji51] at H ⊢; exact H)
                                  (try rw [hji51] at A31)
                                  (try rw [hji51] at A32)
                                  (try rw [hji51] at A33)
                                  (try rw [hji51] at A34)
                                  (try rw [hji51] at A35)
                                  (try rw [hji51] at A37)
                                  have hji51_ : (IntKind.i64.wrap ((Go.bits .and .i64 t268 1) * 2 ^ min (ji49).toNat 64)) = ji51 := hji51
                                  have hji51z : (ji49) ≤ 64 → (IntKind.i64.wrap ((Go.bits .and .i64 t268 1) * 2 ^ (ji49).toNat)) = ji51 := shl_small hji51
                                  have hji51y : (wrap64 ((Go.bits .and .i64 t268 1) * 2 ^ min (ji49).toNat 64)) = ji51 := (i64_w _).symm.trans hji51_
                                  have hji51x : (ji49) ≤ 64 → (wrap64 ((Go.bits .and .i64 t268 1) * 2 ^ (ji49).toNat)) = ji51 := fun h_ => (i64_w _).symm.trans (hji51z h_)
                                  first
                                    | exact absurd ((Option.some.inj H).trans HR_.out) (by decide)
                                    | (obtain rfl := Option.some.inj H
                                       go_wp2_with (first | ((with_reducible refine gate_callee (f := 64) rfl ?_); refine goesL_ (some 146) rfl rfl Try.func64 (by kernel_rfl) rfl #[.int .i64 2, .int .i64 t281] rfl (by (try simp only [List.map_toArray, List.map_cons, List.map_nil]); first | done | rfl | (simp only [List.length_drop, List.length_take]; rfl)) ?_; (with_reducible refine (impl_Holds.calls 2 t281 t283 t284 _ A31.out).mono ?_); rintro e w52 ⟨rfl, hb⟩; refine ⟨_, rfl, ?_⟩; have n0_ := Aside0.mk (below_step (by repeat (first | (with_reducible first | exact HB.out | apply below_alloc | apply pw_below_drewN | apply below_drew1) | exact HB.out)) hb); clear HB; have HB := n0_; clear n0_; (try clear hb); (try clear hb2); (try clear hk); (try clear hi)) | ((with_reducible refine gate_callee (f := 64) rfl ?_); refine goesL_ (some 151) rfl rfl Try.func64 (by kernel_rfl) rfl #[.int .i64 4, .int .i64 t281] rfl (by (try simp only [List.map_toArray, List.map_cons, List.map_nil]); first | done | rfl | (simp only [List.length_drop, List.length_take]; rfl)) ?_; (with_reducible refine (impl_Holds.calls 4 t281 t285 t286 _ A32.out).mono ?_); rintro e w53 ⟨rfl, hb⟩; refine ⟨_, rfl, ?_⟩; have n0_ := Aside0.mk (below_step (by repeat (first | (with_reducible first | exact HB.out | apply below_alloc | apply pw_below_drewN | apply below_drew1) | exact HB.out)) hb); clear HB; have HB := n0_; clear n0_; (try clear hb); (try clear hb2); (try clear hk); (try clear hi)) | ((with_reducible refine gate_callee (f := 64) rfl ?_); refine goesL_ (some 156) rfl rfl Try.func64 (by kernel_rfl) rfl #[.int .i64 12, .int .i64 t281] rfl (by (try simp only [List.map_toArray, List.map_cons, List.map_nil]); first | done | rfl | (simp only [List.length_drop, List.length_take]; rfl)) ?_; (with_reducible refine (impl_Holds.calls 12 t281 t287 t288 _ A33.out).mono ?_); rintro e w54 ⟨rfl, hb⟩; refine ⟨_, rfl, ?_⟩; have n0_ := Aside0.mk (below_step (by repeat (first | (with_reducible first | exact HB.out | apply below_alloc | apply pw_below_drewN | apply below_drew1) | exact HB.out)) hb); clear HB; have HB := n0_; clear n0_; (try clear hb); (try clear hb2); (try clear hk); (try clear hi)) | ((with_reducible refine gate_callee (f := 65) rfl ?_); refine goesL_ (some 162) rfl rfl Try.func65 (by kernel_rfl) rfl #[.int .i64 t263, .int .i64 t265] rfl (by (try simp only [List.map_toArray, List.map_cons, List.map_nil]); first | done | rfl | (simp only [List.length_drop, List.length_take]; rfl)) ?_; (with_reducible refine (impl_SignOf.calls t263 t265 t289 t290 _ A34.out).mono ?_); rintro e w' ⟨rfl, ⟨nd, rfl⟩⟩; refine ⟨_, rfl, ?_⟩) | ((with_reducible refine gate_callee (f := 65) rfl ?_); refine goesL_ (some 168) rfl rfl Try.func65 (by kernel_rfl) rfl #[.int .i64 t264, .int .i64 t265] rfl (by (try simp only [List.map_toArray, List.map_cons, List.map_nil]); first | done | rfl | (simp only [List.length_drop, List.length_take]; rfl)) ?_; (with_reducible refine (impl_SignOf.calls t264 t265 t291 t292 _ A35.out).mono ?_); rintro e w' ⟨rfl, ⟨nd, rfl⟩⟩; refine ⟨_, rfl, ?_⟩) | (go_at_call 66; (with_reducible refine (impl_BelowU.calls t276 t278 t293 _ A37.out).mono ?_); rintro e w' ⟨rfl, ⟨nd, rfl⟩⟩))
                                       go_ret
                                       exact ⟨by first | rfl | (simp [errW_none, errW_some] <;> rfl) | (simp only [← hji49, ← hji51]; first | rfl | (simp [errW_none, errW_some] <;> rfl)) | (simp [*, errW_none, errW_some] <;> rfl), by repeat (first | (with_reducible first | exact HB.out | apply below_alloc | apply pw_below_drewN | apply below_drew1) | exact HB.out)⟩)
                                · rw [if_neg c50] at H
                                  exact absurd H (by simp)
                            · rw [if_neg c44] at H
                              have c44b0 : (t287 == (decide (t289 < t291))) = false := by simpa using c44
                              (try (have c44b1 : decide (t287 = (decide (t289 < t291))) = false := by simpa using c44))
                              (try (have c44b2 : (t287 == (decide (t289 < t291))) = false := by simpa using c44))
                              (try (have c44b3 : ¬ (t287 = (decide (t289 < t291))) := by simpa using c44))
                              clear c44
                              first | exact absurd ((Option.some.inj H).trans HR_.out) (by decide) | exact laws_FnAdd.e1
                          · rw [if_neg c43] at H
                            have c43b0 : (t292 == 0) = false := beq_eq_false_iff_ne.mpr c43
                            have c43b1 : (t292 != 0) = true := bne_iff_ne.mpr c43
                            first | exact absurd ((Option.some.inj H).trans HR_.out) (by decide) | exact laws_FnAdd.e1
                        · rw [if_neg c42] at H
                          have c42b0 : (t290 == 0) = false := beq_eq_false_iff_ne.mpr c42
                          have c42b1 : (t290 != 0) = true := bne_iff_ne.mpr c42
                          first | exact absurd ((Option.some.inj H).trans HR_.out) (by decide) | exact laws_FnAdd.e1
                      · rw [if_neg c41] at H
                        have c41b0 : (t288 == 0) = false := beq_eq_false_iff_ne.mpr c41
                        have c41b1 : (t288 != 0) = true := bne_iff_ne.mpr c41
                        first | exact absurd ((Option.some.inj H).trans HR_.out) (by decide) | exact laws_FnAdd.e1
                    · rw [if_neg c40] at H
                      have c40b0 : (t285 == (t276 == t278)) = false := by simpa using c40
                      (try (have c40b1 : decide (t285 = (t276 == t278)) = false := by simpa using c40))
                      (try (have c40b2 : (t285 == (t276 == t278)) = false := by simpa using c40))
                      (try (have c40b3 : ¬ (t285 = (t276 == t278)) := by simpa using c40))
                      clear c40
                      first | exact absurd ((Option.some.inj H).trans HR_.out) (by decide) | exact laws_FnAdd.e1
                  · rw [if_neg c39] at H
                    have c39b0 : (t286 == 0) = false := beq_eq_false_iff_ne.mpr c39
                    have c39b1 : (t286 != 0) = true := bne_iff_ne.mpr c39
                    first | exact absurd ((Option.some.inj H).trans HR_.out) (by decide) | exact laws_FnAdd.e1
                · rw [if_neg c38] at H
                  have c38b0 : (t283 == t293) = false := by simpa using c38
                  (try (have c38b1 : decide (t283 = t293) = false := by simpa using c38))
                  (try (have c38b2 : (t283 == t293) = false := by simpa using c38))
                  (try (have c38b3 : ¬ (t283 = t293) := by simpa using c38))
                  clear c38
                  first | exact absurd ((Option.some.inj H).trans HR_.out) (by decide) | exact laws_FnAdd.e1
              · rw [if_neg c36] at H
                have c36b0 : (t284 == 0) = false := beq_eq_false_iff_ne.mpr c36
                have c36b1 : (t284 != 0) = true := bne_iff_ne.mpr c36
                first
                  | exact absurd ((Option.some.inj H).trans HR_.out) (by decide)
                  | (obtain rfl := Option.some.inj H
                     go_wp2_with (first | ((with_reducible refine gate_callee (f := 64) rfl ?_); refine goesL_ (some 146) rfl rfl Try.func64 (by kernel_rfl) rfl #[.int .i64 2, .int .i64 t281] rfl (by (try simp only [List.map_toArray, List.map_cons, List.map_nil]); first | done | rfl | (simp only [List.length_drop, List.length_take]; rfl)) ?_; (with_reducible refine (impl_Holds.calls 2 t281 t283 t284 _ A31.out).mono ?_); rintro e w76 ⟨rfl, hb⟩; refine ⟨_, rfl, ?_⟩; have n0_ := Aside0.mk (below_step (by repeat (first | (with_reducible first | exact HB.out | apply below_alloc | apply pw_below_drewN | apply below_drew1) | exact HB.out)) hb); clear HB; have HB := n0_; clear n0_; (try clear hb); (try clear hb2); (try clear hk); (try clear hi)) | ((with_reducible refine gate_callee (f := 64) rfl ?_); refine goesL_ (some 151) rfl rfl Try.func64 (by kernel_rfl) rfl #[.int .i64 4, .int .i64 t281] rfl (by (try simp only [List.map_toArray, List.map_cons, List.map_nil]); first | done | rfl | (simp only [List.length_drop, List.length_take]; rfl)) ?_; (with_reducible refine (impl_Holds.calls 4 t281 t285 t286 _ A32.out).mono ?_); rintro e w77 ⟨rfl, hb⟩; refine ⟨_, rfl, ?_⟩; have n0_ := Aside0.mk (below_step (by repeat (first | (with_reducible first | exact HB.out | apply below_alloc | apply pw_below_drewN | apply below_drew1) | exact HB.out)) hb); clear HB; have HB := n0_; clear n0_; (try clear hb); (try clear hb2); (try clear hk); (try clear hi)) | ((with_reducible refine gate_callee (f := 64) rfl ?_); refine goesL_ (some 156) rfl rfl Try.func64 (by kernel_rfl) rfl #[.int .i64 12, .int .i64 t281] rfl (by (try simp only [List.map_toArray, List.map_cons, List.map_nil]); first | done | rfl | (simp only [List.length_drop, List.length_take]; rfl)) ?_; (with_reducible refine (impl_Holds.calls 12 t281 t287 t288 _ A33.out).mono ?_); rintro e w78 ⟨rfl, hb⟩; refine ⟨_, rfl, ?_⟩; have n0_ := Aside0.mk (below_step (by repeat (first | (with_reducible first | exact HB.out | apply below_alloc | apply pw_below_drewN | apply below_drew1) | exact HB.out)) hb); clear HB; have HB := n0_; clear n0_; (try clear hb); (try clear hb2); (try clear hk); (try clear hi)) | ((with_reducible refine gate_callee (f := 65) rfl ?_); refine goesL_ (some 162) rfl rfl Try.func65 (by kernel_rfl) rfl #[.int .i64 t263, .int .i64 t265] rfl (by (try simp only [List.map_toArray, List.map_cons, List.map_nil]); first | done | rfl | (simp only [List.length_drop, List.length_take]; rfl)) ?_; (with_reducible refine (impl_SignOf.calls t263 t265 t289 t290 _ A34.out).mono ?_); rintro e w' ⟨rfl, ⟨nd, rfl⟩⟩; refine ⟨_, rfl, ?_⟩) | ((with_reducible refine gate_callee (f := 65) rfl ?_); refine goesL_ (some 168) rfl rfl Try.func65 (by kernel_rfl) rfl #[.int .i64 t264, .int .i64 t265] rfl (by (try simp only [List.map_toArray, List.map_cons, List.map_nil]); first | done | rfl | (simp only [List.length_drop, List.length_take]; rfl)) ?_; (with_reducible refine (impl_SignOf.calls t264 t265 t291 t292 _ A35.out).mono ?_); rintro e w' ⟨rfl, ⟨nd, rfl⟩⟩; refine ⟨_, rfl, ?_⟩))
                     go_ret
                     exact ⟨by first | rfl | (simp [errW_none, errW_some] <;> rfl) | (simp [*, errW_none, errW_some] <;> rfl), by repeat (first | (with_reducible first | exact HB.out | apply below_alloc | apply pw_below_drewN | apply below_drew1) | exact HB.out)⟩)/-- THE ONE PURE STATEMENT of laws_FnAdd: yours. -/
def laws_FnAdd.Pure : Prop := ∀ (l0 : List Int) (l1 : List Int), l0.length ≤ maxLen → l0.length * 1 ≤ 140737488351232 → (∀ x ∈ l0, (Lit.int .u8 x).wf = true) → l1.length ≤ maxLen → l1.length * 1 ≤ 140737488351232 → (∀ x ∈ l1, (Lit.int .u8 x).wf = true) → ∃ k, laws_FnAdd.f k l0 l1 = some true
theorem laws_FnAdd.walk (P : laws_FnAdd.Pure) (a0 : Option Addr) (len0 cap0 : Nat) (z0 : List Int) (a1 : Option Addr) (len1 cap1 : Nat) (z1 : List Int) (w : World) (w0 : (a0 = none ∧ len0 = 0 ∧ cap0 = 0 ∧ z0 = []) ∨ ∃ x, a0 = some x ∧ len0 ≤ cap0 ∧ cap0 ≤ maxLen ∧ z0.length = cap0 ∧ (∀ i, i < z0.length → w.cell? (x.add i) = some (.int .u8 (z0.getD i 0))) ∧ ∀ n ∈ z0, (Lit.int .u8 n).wf = true) (y0 : len0 * 1 ≤ 140737488351232) (w1 : (a1 = none ∧ len1 = 0 ∧ cap1 = 0 ∧ z1 = []) ∨ ∃ x, a1 = some x ∧ len1 ≤ cap1 ∧ cap1 ≤ maxLen ∧ z1.length = cap1 ∧ (∀ i, i < z1.length → w.cell? (x.add i) = some (.int .u8 (z1.getD i 0))) ∧ ∀ n ∈ z1, (Lit.int .u8 n).wf = true) (y1 : len1 * 1 ≤ 140737488351232) :
    Calls Try.prog 13 #[.slice a0 len0 cap0, .slice a1 len1 cap1] w fun e w' => e = .returned (.bool true) ∧ Below w.heap.size w w' := by
  obtain ⟨l0, rfl, hr0, hm0, hw0, hc0⟩ := ReadsInt.ofRowC w0
  obtain ⟨l1, rfl, hr1, hm1, hw1, hc1⟩ := ReadsInt.ofRowC w1
  obtain ⟨k, h⟩ := P l0 l1 hm0 y0 hw0 hm1 y1 hw1
  refine (laws_FnAdd.calls k _ _ l0 _ _ l1 true w (Kd.C_of_reads (d := (0 : Int)) (h1 := fun _ => rfl) hr0) hc0 (Kd.C_of_reads (d := (0 : Int)) (h1 := fun _ => rfl) hr1) hc1 h).mono ?_
  rintro e w' ⟨rfl, hd⟩
  exact ⟨rfl, hd⟩

end Go.Proofs.Ytigoabhkdipdeaa.PFnAdd
