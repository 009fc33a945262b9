/- Laid by a program of this session (patch_print.py) out of the translation: plain functions and what the calls do. No condition. -/
import Derived.Test.YtigoabhkdipdeaaPFnExactElfTextx0
import Derived.Test.YtigoabhkdipdeaaPFnExactElfTextx5
namespace Go.Proofs.Ytigoabhkdipdeaa.PFnExactElfText
open Go.RowKit Go.Proofs.YtigoabhkdipdeaaW.PrintWords Go.Proofs.YtigoabhkdipdeaaW.PrintLast Go.Proofs.YtigoabhkdipdeaaW.PrintMore
attribute [local go_sem] max2_int min2_int max_two min_two max_three min_three max_four min_four   -- for this text's walks alone
set_option linter.unusedVariables false
set_option linter.unusedSimpArgs false

/-! ### spec_ImageOK: function 73 -/
def spec_ImageOK.f (k : Nat) (a0_0 : Int) (l0_1 : List (S111)) : Option (Bool) := (spec_l10Check.f k a0_0 l0_1).bind fun bt147 => (some (bt147.2 == 0))
theorem spec_ImageOK.mono : ∀ a0 a1 k, LeO (spec_ImageOK.f k a0 a1) (spec_ImageOK.f (k + 1) a0 a1) := by
  intro a0 a1 k
  unfold spec_ImageOK.f
  repeat' first
      | (with_reducible exact spec_l10Check.mono _ _ _)
      | (with_reducible exact LeO.refl _)
      | (with_reducible exact LeO.none _)
      | (with_reducible refine LeO.ite ?_ ?_)
      | (with_reducible refine LeO.bind ?_ (fun _ => ?_))
      | exact spec_l10Check.mono _ _ _
      | exact LeO.none _
      | refine LeO.ite ?_ ?_
      | refine LeO.bind ?_ (fun _ => ?_)
set_option maxHeartbeats 8000000 in
set_option maxRecDepth 100000 in
theorem spec_ImageOK.calls (k : Nat) (a0_0 : Int) (A0_1 : Option Addr) (c0_1 : Nat) (l0_1 : List (S111)) (r : Bool) (w : World) (hr0_1 : Kd.C k111 w A0_1 l0_1.length l0_1) (hc0_1 : l0_1.length ≤ c0_1) (h : spec_ImageOK.f k a0_0 l0_1 = some r) :
    Calls Try.prog 73 #[.agg #[.int .i64 a0_0, .slice A0_1 l0_1.length c0_1]] w fun e w' => e = .returned (.bool r) ∧ Below w.heap.size w w' := by
  have hu29 := Try.underlying29
  have HR0_1 := Aside0.mk hr0_1
  have HC0_1 := Aside0.mk hc0_1
  clear hr0_1 hc0_1
  have HB := Aside0.mk (Below.refl w.heap.size w)
  have H : ((spec_l10Check.f k a0_0 l0_1).bind fun bt147 => (some (bt147.2 == 0))) = some r := h
  clear h
  replace H := Option.bind_eq_some_iff.mp H
  obtain ⟨⟨t147, t148⟩, A20, H⟩ := H
  replace H : (some (t148 == 0)) = some r := H
  have A2 := Aside0.mk A20
  clear A20
  obtain rfl := Option.some.inj H
  go_enter Try.func73, Try.ntmps73
  go_wp2_with (first | ((with_reducible refine gate_dst (N := 1) rfl ?_); refine box_event ?hg (N := 1) ?hd (cs := #[.int .i64 a0_0, .slice A0_1 l0_1.length c0_1]) (t := 29) ?hr ?_; (case hd => rfl); (case hg => rfl); (case hr => first | (go_simp; done) | (go_simp; rfl)); intro gb146 hg w3 hbox hb; have n0_ := Aside0.mk (below_step by1 hb); have n1_ := Aside0.mk (hbox); have n2_ := Aside0.mk ((by0 : w.heap.size ≤ gb146)); have n3_ := Aside0.mk ((by0 : w.heap.size ≤ gb146)); clear HB; have HB := n0_; have BK146 := n1_; have GW146 := n2_; have GE146 := n3_; clear n0_ n1_ n2_ n3_; clear hb hbox hg; have hcz4_0 : w3.cell? ⟨gb146, 0, none⟩ = some (.int .i64 a0_0) := (blk_cell BK146.out 0).trans rfl; have hcz4_1 : w3.cell? ⟨gb146, 1, none⟩ = some (.slice A0_1 l0_1.length c0_1) := (blk_cell BK146.out 1).trans rfl; have hfz4_0 := blk_frozen BK146.out 0; have hfz4_1 := blk_frozen BK146.out 1) | ((with_reducible refine gate_callee (f := 117) rfl ?_); refine goesL_ (some 7) rfl rfl Try.func117 by7 rfl #[.agg #[.int .i64 a0_0, .slice A0_1 l0_1.length c0_1]] rfl by2 ?_; (with_reducible refine (spec_l10Check.calls k a0_0 _ _ l0_1 t147 t148 _ ?side1 ?side2 A2.out).mono ?_); (case side1 => repeat (first | exact (Kd.C_below HR0_1.out HB.out) | (with_reducible refine Kd.C_alloc ?_ _) | (with_reducible refine Kd.C_drewN ?_ _) | (with_reducible refine Kd.C_drew ?_))); (case side2 => exact HC0_1.out); rintro e w5 ⟨rfl, hb⟩; refine ⟨_, rfl, ?_⟩; have n0_ := Aside0.mk (blk_below (g := gb146) (o := .cells #[.int .i64 a0_0, .slice A0_1 l0_1.length c0_1] 29 (0, 0)) (by (with_reducible repeat (first | refine blk_drewN ?_ _ | refine blk_drew ?_ | refine blk_alloc ?_ _)); exact BK146.out) hb); have n1_ := Aside0.mk (below_step (by repeat (first | (with_reducible first | exact HB.out | apply below_alloc | apply pw_below_drewN | apply below_drew1 | refine below_set ?_ GE146.out) | exact HB.out)) hb); clear BK146; clear HB; have BK146 := n0_; have HB := n1_; clear n0_ n1_; (try clear hb); (try clear hb2); (try clear hk); (try clear hi)))
  go_ret
  exact ⟨by first | rfl | (simp [errW_none, errW_some] <;> rfl) | (simp [*, errW_none, errW_some] <;> rfl), by repeat (first | (with_reducible first | exact HB.out | apply below_alloc | apply pw_below_drewN | apply below_drew1 | refine below_set ?_ GE146.out) | exact HB.out)⟩

/-! ### spec_l01Little: function 152 -/
def spec_l01Little.l0 : Nat → Int → Int → List Int → Int → Option (ByteArray)
  | 0, _, _, _, _ => none
  | k + 1, x0, x1, x5, x6 => if x6 < x1 then (if 0 ≤ (IntKind.u64.wrap (wrap64 (8 * x6))) then (if x5.length < 140737488355328 then (spec_l01Little.l0 k x0 x1 (x5 ++ [(shr .u64 (IntKind.u64.wrap (x0)) (IntKind.u64.wrap (wrap64 (8 * x6)))) % 256]) (wrap64 (x6 + 1))) else (none)) else (none)) else (some (strOfNums x5))
def spec_l01Little.f (k : Nat) (a0 : Int) (a1 : Int) : Option (ByteArray) := spec_l01Little.l0 k a0 a1 (([] : List Int)) 0
theorem spec_l01Little.mono_l : ∀ k, (∀ y0 y1 y2 y3, LeO (spec_l01Little.l0 k y0 y1 y2 y3) (spec_l01Little.l0 (k + 1) y0 y1 y2 y3))
  | 0 => fun _ _ _ _ r h => by simp [spec_l01Little.l0] at h
  | k + 1 => by
    have ih0 := spec_l01Little.mono_l k
    · intro y0 y1 y2 y3
      unfold spec_l01Little.l0
      repeat' first
      | (with_reducible exact ih0 _ _ _ _)
      | (with_reducible exact LeO.refl _)
      | (with_reducible exact LeO.none _)
      | (with_reducible refine LeO.ite ?_ ?_)
      | (with_reducible refine LeO.bind ?_ (fun _ => ?_))
      | exact ih0 _ _ _ _
      | exact LeO.none _
      | refine LeO.ite ?_ ?_
      | refine LeO.bind ?_ (fun _ => ?_)
theorem spec_l01Little.mono : ∀ a0 a1 k, LeO (spec_l01Little.f k a0 a1) (spec_l01Little.f (k + 1) a0 a1) := by
  intro a0 a1 k
  have ih0 := spec_l01Little.mono_l k
  unfold spec_l01Little.f
  repeat' first
      | (with_reducible exact ih0 _ _ _ _)
      | (with_reducible exact LeO.refl _)
      | (with_reducible exact LeO.none _)
      | (with_reducible refine LeO.ite ?_ ?_)
      | (with_reducible refine LeO.bind ?_ (fun _ => ?_))
      | exact ih0 _ _ _ _
      | exact LeO.none _
      | refine LeO.ite ?_ ?_
      | refine LeO.bind ?_ (fun _ => ?_)
set_option maxHeartbeats 8000000 in
set_option maxRecDepth 100000 in
theorem spec_l01Little.calls (k : Nat) (a0 : Int) (a1 : Int) (r : ByteArray) (w : World) (h : spec_l01Little.f k a0 a1 = some r) :
    Calls Try.prog 152 #[.int .i64 a0, .int .i64 a1] w fun e w' => e = .returned (.string r) ∧ Below w.heap.size w w' := by
  have HB := Aside0.mk (Below.refl w.heap.size w)
  have H : (spec_l01Little.l0 k a0 a1 (([] : List Int)) 0) = some r := h
  clear h
  obtain ⟨y149, hy149⟩ : ∃ y_ : List Int, y_ = (([] : List Int)) := ⟨_, rfl⟩
  replace H : (spec_l01Little.l0 k a0 a1 y149 0) = some r := by first | (rw [hy149]; with_reducible exact H) | (have H2_ := (Option.bind_some _ _).symm.trans H; rw [hy149]; with_reducible exact H2_) | (have H2_ := (Option.bind_some _ _).symm.trans H; with_reducible exact H2_) | with_reducible exact H | (rw [hy149]; exact H) | exact H
  have Ny149 := Aside0.mk hy149
  clear hy149
  have H' := Aside0.mk H
  clear H
  go_enter Try.func152, Try.ntmps152
  go_wp2_with (first | ((with_reducible refine gate_dst (N := 7) rfl ?_); refine Kd.R_lit (Kd.int .u8) _ 5 ?hg (N := 7) ?hd (xs := ([] : List Int)) (inner := []) (ok := fun _ => True) (okp := fun _ => True) ?hr ?hp (fun _ hk => hk) trivial (Below.refl _ _) (Nat.le_refl _) (by simp) ?_; (case hd => rfl); (case hg => rfl); (case hr => first | (go_simp; done) | (go_simp; rfl)); (case hp => exact (Reps.none _ _)); intro v150 w3 ho4 hb hg_ hnew_; clear hg_ hnew_; (first | rw [← Ny149.out] at ho4 | (simp only [Int.reduceToNat] at ho4; rw [← Ny149.out] at ho4)); have n0_ := Aside0.mk (Kd.R_lower ho4 (below_size by1)); have n1_ := Aside0.mk (below_step by1 hb); clear HB; have HO151 := n0_; have HB := n1_; clear n0_ n1_; clear hb ho4))
  go_loopg [5, 6] k (fun kq v5 v6 w' => ∃ (x5_1 : List Int) (x6_1 : Int), v6 = .int .i64 x6_1 ∧ Aside0 (spec_l01Little.l0 kq a0 a1 x5_1 x6_1 = some r) ∧ Aside0 (kq ≤ k) ∧ Aside0 (Kd.R (Kd.int .u8) 5 w' w.heap.size (fun _ => True) v5 x5_1) ∧ Aside0 (Below w.heap.size w w'))
  case atStart => exact ⟨(y149), (0), by9, H', ⟨Nat.le_refl _⟩, ⟨by (with_reducible repeat (first | apply Kd.R_alloc | apply Kd.R_drewN | apply Kd.R_drew)); exact HO151.out⟩, ⟨by repeat (first | (with_reducible first | exact HB.out | apply below_alloc | apply pw_below_drewN | apply below_drew1) | exact HB.out)⟩⟩
  case round =>
    clear H'
    try clear c1
    try clear p2
    obtain ⟨x5_1, x6_1, rfl, HA, HK1, HO_5, HB⟩ := hrel
    cases gk with
    | zero => exact absurd HA.out (by simp [spec_l01Little.l0])
    | succ k1 =>
      have H := HA.out
      clear HA
      simp only [spec_l01Little.l0] at H
      by_cases c5 : x6_1 < a1
      · rw [if_pos c5] at H
        have c5b0 : decide (x6_1 < a1) = true := decide_eq_true c5
        clear c5
        obtain ⟨ji6, hji6⟩ : ∃ j_ : Int, (IntKind.u64.wrap (wrap64 (8 * x6_1))) = j_ := ⟨_, rfl⟩
        replace H : (if 0 ≤ (ji6) then (if x5_1.length < 140737488355328 then (spec_l01Little.l0 k1 a0 a1 (x5_1 ++ [(shr .u64 (IntKind.u64.wrap (a0)) (ji6)) % 256]) (wrap64 (x6_1 + 1))) else (none)) else (none)) = some r := by first | (rw [hji6] at H; exact H) | (simp only [hji6] at H ⊢; exact H)
        by_cases c7 : 0 ≤ (ji6)
        · rw [if_pos c7] at H
          have c7b0 := eq_true c7
          have c7b1 : decide (0 ≤ (ji6)) = true := decide_eq_true c7
          clear c7
          obtain ⟨ji8, hji8⟩ : ∃ j_ : Int, (shr .u64 (IntKind.u64.wrap (a0)) (ji6)) = j_ := ⟨_, rfl⟩
          replace H : (if x5_1.length < 140737488355328 then (spec_l01Little.l0 k1 a0 a1 (x5_1 ++ [(ji8) % 256]) (wrap64 (x6_1 + 1))) else (none)) = some r := by first | (rw [hji8] at H; exact H) | (simp only [hji8] at H ⊢; exact H)
          have hji8_ : ((IntKind.u64.wrap (a0)) / 2 ^ min (ji6).toNat 64) = ji8 := hji8
          have hji8z : (ji6) ≤ 64 → ((IntKind.u64.wrap (a0)) / 2 ^ (ji6).toNat) = ji8 := shr_small hji8
          by_cases c9 : x5_1.length < 140737488355328
          · rw [if_pos c9] at H
            have LMc9 := Aside0.mk c9
            clear c9
            obtain ⟨y152, hy152⟩ : ∃ y_ : List Int, y_ = (x5_1 ++ [(ji8) % 256]) := ⟨_, rfl⟩
            replace H : (spec_l01Little.l0 k1 a0 a1 y152 (wrap64 (x6_1 + 1))) = some r := by first | (rw [hy152]; with_reducible exact H) | (have H2_ := (Option.bind_some _ _).symm.trans H; rw [hy152]; with_reducible exact H2_) | (have H2_ := (Option.bind_some _ _).symm.trans H; with_reducible exact H2_) | with_reducible exact H | (rw [hy152]; exact H) | exact H
            have Ny152 := Aside0.mk hy152
            clear hy152
            have H' := Aside0.mk H
            clear H
            go_wp2_with (first | ((with_reducible refine gate_builtin (b := .append) (xs := #[.tmp 13, .tmp 21]) rfl ?_); at_builtin; refine Kd.R_append (Kd.int .u8) (w0 := w) w.heap.size rfl (.tmp 13) (.tmp 21) 87 5 (.int .u8 0) 1 rfl Try.underlying87 info5 rfl (by decide) (by omega) u5 x5_1 ((ji8) % 256) [.int .u8 ((ji8) % 256)] (fun _ => True) (fun _ => False) rfl rfl ?aP (fun _ hk => hk.elim) ?aF ?aO ?aB ?aS ?aL ?_; (case aP => exact rfl); (case aB => exact by1); (case aF => exact (fun _ _ => trivial)); (case aO => exact (by (with_reducible repeat (first | apply Kd.R_alloc | apply Kd.R_drewN | apply Kd.R_drew)); exact HO_5.out)); (case aS => exact (below_size by1)); (case aL => have := LMc9.out; omega); intro v153 w10 ho hb hg hat; rw [← Ny152.out] at ho; have n0_ := Aside0.mk (hb); have n1_ := Aside0.mk (ho); clear HB; clear HO_5; have HB := n0_; have HO154 := n1_; clear n0_ n1_; clear ho hb hg hat))
            go_roundg k1
            case measure => have := HK1.out; omega
            case rel => exact ⟨(y152), (wrap64 (x6_1 + 1)), by9, H', ⟨by have := HK1.out; omega⟩, ⟨by (with_reducible repeat (first | apply Kd.R_alloc | apply Kd.R_drewN | apply Kd.R_drew)); exact HO154.out⟩, ⟨by repeat (first | (with_reducible first | exact HB.out | apply below_alloc | apply pw_below_drewN | apply below_drew1) | exact HB.out)⟩⟩
          · rw [if_neg c9] at H
            exact absurd H (by simp)
        · rw [if_neg c7] at H
          exact absurd H (by simp)
      · rw [if_neg c5] at H
        have c5b0 : decide (x6_1 < a1) = false := decide_eq_false c5
        clear c5
        obtain rfl := Option.some.inj H
        have hcv11 := own_string (P := Try.prog) Try.underlying87 Try.underlying5 Try.underlying9 (Kd.own_of_R HO_5.out)
        go_wp2
        go_ret
        exact ⟨by first | rfl | (simp [errW_none, errW_some] <;> rfl) | (simp [*, errW_none, errW_some] <;> rfl), by repeat (first | (with_reducible first | exact HB.out | apply below_alloc | apply pw_below_drewN | apply below_drew1) | exact HB.out)⟩

/-! ### spec_l10Head: function 151 -/
def spec_l10Head.f (k : Nat) (a0 : Int) (a1 : Int) : Option (ByteArray) := if 8 ≤ 281474976710656 then ((some (List.replicate 8 0 : List Int)).bind fun y155 => (if 8 + (strOfNums y155).size ≤ 9223372036854775807 then ((spec_l01Little.f k 2 2).bind fun t158 => (if ((⟨#[127, 69, 76, 70, 2, 1, 1, 0]⟩ : ByteArray) ++ (strOfNums y155)).size + t158.size ≤ 9223372036854775807 then ((spec_l01Little.f k 62 2).bind fun t159 => (if (((⟨#[127, 69, 76, 70, 2, 1, 1, 0]⟩ : ByteArray) ++ (strOfNums y155)) ++ t158).size + t159.size ≤ 9223372036854775807 then ((spec_l01Little.f k 1 4).bind fun t160 => (if ((((⟨#[127, 69, 76, 70, 2, 1, 1, 0]⟩ : ByteArray) ++ (strOfNums y155)) ++ t158) ++ t159).size + t160.size ≤ 9223372036854775807 then ((spec_l01Little.f k a0 8).bind fun t161 => (if (((((⟨#[127, 69, 76, 70, 2, 1, 1, 0]⟩ : ByteArray) ++ (strOfNums y155)) ++ t158) ++ t159) ++ t160).size + t161.size ≤ 9223372036854775807 then ((spec_l01Little.f k 64 8).bind fun t162 => (if ((((((⟨#[127, 69, 76, 70, 2, 1, 1, 0]⟩ : ByteArray) ++ (strOfNums y155)) ++ t158) ++ t159) ++ t160) ++ t161).size + t162.size ≤ 9223372036854775807 then ((spec_l01Little.f k 0 8).bind fun t163 => (if (((((((⟨#[127, 69, 76, 70, 2, 1, 1, 0]⟩ : ByteArray) ++ (strOfNums y155)) ++ t158) ++ t159) ++ t160) ++ t161) ++ t162).size + t163.size ≤ 9223372036854775807 then ((spec_l01Little.f k 0 4).bind fun t164 => (if ((((((((⟨#[127, 69, 76, 70, 2, 1, 1, 0]⟩ : ByteArray) ++ (strOfNums y155)) ++ t158) ++ t159) ++ t160) ++ t161) ++ t162) ++ t163).size + t164.size ≤ 9223372036854775807 then ((spec_l01Little.f k 64 2).bind fun t165 => (if (((((((((⟨#[127, 69, 76, 70, 2, 1, 1, 0]⟩ : ByteArray) ++ (strOfNums y155)) ++ t158) ++ t159) ++ t160) ++ t161) ++ t162) ++ t163) ++ t164).size + t165.size ≤ 9223372036854775807 then ((spec_l01Little.f k 56 2).bind fun t166 => (if ((((((((((⟨#[127, 69, 76, 70, 2, 1, 1, 0]⟩ : ByteArray) ++ (strOfNums y155)) ++ t158) ++ t159) ++ t160) ++ t161) ++ t162) ++ t163) ++ t164) ++ t165).size + t166.size ≤ 9223372036854775807 then ((spec_l01Little.f k a1 2).bind fun t167 => (if (((((((((((⟨#[127, 69, 76, 70, 2, 1, 1, 0]⟩ : ByteArray) ++ (strOfNums y155)) ++ t158) ++ t159) ++ t160) ++ t161) ++ t162) ++ t163) ++ t164) ++ t165) ++ t166).size + t167.size ≤ 9223372036854775807 then (if 6 ≤ 281474976710656 then ((some (List.replicate 6 0 : List Int)).bind fun y168 => (if ((((((((((((⟨#[127, 69, 76, 70, 2, 1, 1, 0]⟩ : ByteArray) ++ (strOfNums y155)) ++ t158) ++ t159) ++ t160) ++ t161) ++ t162) ++ t163) ++ t164) ++ t165) ++ t166) ++ t167).size + (strOfNums y168).size ≤ 9223372036854775807 then (some (((((((((((((⟨#[127, 69, 76, 70, 2, 1, 1, 0]⟩ : ByteArray) ++ (strOfNums y155)) ++ t158) ++ t159) ++ t160) ++ t161) ++ t162) ++ t163) ++ t164) ++ t165) ++ t166) ++ t167) ++ (strOfNums y168))) else (none))) else (none)) else (none))) else (none))) else (none))) else (none))) else (none))) else (none))) else (none))) else (none))) else (none))) else (none))) else (none))) else (none)
theorem spec_l10Head.mono : ∀ a0 a1 k, LeO (spec_l10Head.f k a0 a1) (spec_l10Head.f (k + 1) a0 a1) := by
  intro a0 a1 k
  unfold spec_l10Head.f
  repeat' first
      | (with_reducible exact spec_l01Little.mono _ _ _)
      | (with_reducible exact LeO.refl _)
      | (with_reducible exact LeO.none _)
      | (with_reducible refine LeO.ite ?_ ?_)
      | (with_reducible refine LeO.bind ?_ (fun _ => ?_))
      | exact spec_l01Little.mono _ _ _
      | exact LeO.none _
      | refine LeO.ite ?_ ?_
      | refine LeO.bind ?_ (fun _ => ?_)
def spec_l10Head.T1 : Bool × List (List Nat × List Nat) := (true, [([], []), ([0], [0]), ([1], [1]), ([], []), ([2, 3], [2, 3]), ([3], []), ([4, 5], [4, 5]), ([5], []), ([6, 7], [6, 7]), ([], []), ([9, 7], [9]), ([8, 10], [8, 10]), ([10], []), ([11, 12], [11, 12]), ([12], []), ([13, 14], [13, 14]), ([14], []), ([15, 16], [15, 16]), ([16], []), ([17, 18], [17, 18]), ([18], []), ([19, 20], [19, 20]), ([], []), ([22, 20], [22]), ([21, 23], [21, 23]), ([], []), ([25], [25]), ([24, 26], [24, 26]), ([27, 23, 0, 1, 2, 3, 4, 5, 6, 7, 8, 9, 10, 11, 12, 13, 14, 15, 16, 17, 18, 19, 20, 21, 22, 23, 24, 25, 26, 27], [27])])
def spec_l10Head.B1 : List Nat := [0, 1, 3, 0, 15, 8, 63, 40, 255, 0, 680, 2047, 1704, 8191, 5800, 32767, 22184, 131071, 87720, 524287, 349864, 2097151, 0, 5592744, 16777215, 0, 33554432, 134217727, 268435455]
theorem spec_l10Head.tab1 : rtab .any (opsOf Try.f151 1) = spec_l10Head.T1 := by kernel_rfl
theorem spec_l10Head.bits1 : waitsOk spec_l10Head.T1.2 spec_l10Head.B1 = true := by kernel_rfl
set_option maxHeartbeats 8000000 in
set_option maxRecDepth 100000 in
theorem spec_l10Head.calls (k : Nat) (a0 : Int) (a1 : Int) (r : ByteArray) (w : World) (h : spec_l10Head.f k a0 a1 = some r) :
    Calls Try.prog 151 #[.int .i64 a0, .int .i64 a1] w fun e w' => e = .returned (.string r) ∧ Below w.heap.size w w' := by
  have HB := Aside0.mk (Below.refl w.heap.size w)
  have H : (if 8 ≤ 281474976710656 then ((some (List.replicate 8 0 : List Int)).bind fun y155 => (if 8 + (strOfNums y155).size ≤ 9223372036854775807 then ((spec_l01Little.f k 2 2).bind fun t158 => (if ((⟨#[127, 69, 76, 70, 2, 1, 1, 0]⟩ : ByteArray) ++ (strOfNums y155)).size + t158.size ≤ 9223372036854775807 then ((spec_l01Little.f k 62 2).bind fun t159 => (if (((⟨#[127, 69, 76, 70, 2, 1, 1, 0]⟩ : ByteArray) ++ (strOfNums y155)) ++ t158).size + t159.size ≤ 9223372036854775807 then ((spec_l01Little.f k 1 4).bind fun t160 => (if ((((⟨#[127, 69, 76, 70, 2, 1, 1, 0]⟩ : ByteArray) ++ (strOfNums y155)) ++ t158) ++ t159).size + t160.size ≤ 9223372036854775807 then ((spec_l01Little.f k a0 8).bind fun t161 => (if (((((⟨#[127, 69, 76, 70, 2, 1, 1, 0]⟩ : ByteArray) ++ (strOfNums y155)) ++ t158) ++ t159) ++ t160).size + t161.size ≤ 9223372036854775807 then ((spec_l01Little.f k 64 8).bind fun t162 => (if ((((((⟨#[127, 69, 76, 70, 2, 1, 1, 0]⟩ : ByteArray) ++ (strOfNums y155)) ++ t158) ++ t159) ++ t160) ++ t161).size + t162.size ≤ 9223372036854775807 then ((spec_l01Little.f k 0 8).bind fun t163 => (if (((((((⟨#[127, 69, 76, 70, 2, 1, 1, 0]⟩ : ByteArray) ++ (strOfNums y155)) ++ t158) ++ t159) ++ t160) ++ t161) ++ t162).size + t163.size ≤ 9223372036854775807 then ((spec_l01Little.f k 0 4).bind fun t164 => (if ((((((((⟨#[127, 69, 76, 70, 2, 1, 1, 0]⟩ : ByteArray) ++ (strOfNums y155)) ++ t158) ++ t159) ++ t160) ++ t161) ++ t162) ++ t163).size + t164.size ≤ 9223372036854775807 then ((spec_l01Little.f k 64 2).bind fun t165 => (if (((((((((⟨#[127, 69, 76, 70, 2, 1, 1, 0]⟩ : ByteArray) ++ (strOfNums y155)) ++ t158) ++ t159) ++ t160) ++ t161) ++ t162) ++ t163) ++ t164).size + t165.size ≤ 9223372036854775807 then ((spec_l01Little.f k 56 2).bind fun t166 => (if ((((((((((⟨#[127, 69, 76, 70, 2, 1, 1, 0]⟩ : ByteArray) ++ (strOfNums y155)) ++ t158) ++ t159) ++ t160) ++ t161) ++ t162) ++ t163) ++ t164) ++ t165).size + t166.size ≤ 9223372036854775807 then ((spec_l01Little.f k a1 2).bind fun t167 => (if (((((((((((⟨#[127, 69, 76, 70, 2, 1, 1, 0]⟩ : ByteArray) ++ (strOfNums y155)) ++ t158) ++ t159) ++ t160) ++ t161) ++ t162) ++ t163) ++ t164) ++ t165) ++ t166).size + t167.size ≤ 9223372036854775807 then (if 6 ≤ 281474976710656 then ((some (List.replicate 6 0 : List Int)).bind fun y168 => (if ((((((((((((⟨#[127, 69, 76, 70, 2, 1, 1, 0]⟩ : ByteArray) ++ (strOfNums y155)) ++ t158) ++ t159) ++ t160) ++ t161) ++ t162) ++ t163) ++ t164) ++ t165) ++ t166) ++ t167).size + (strOfNums y168).size ≤ 9223372036854775807 then (some (((((((((((((⟨#[127, 69, 76, 70, 2, 1, 1, 0]⟩ : ByteArray) ++ (strOfNums y155)) ++ t158) ++ t159) ++ t160) ++ t161) ++ t162) ++ t163) ++ t164) ++ t165) ++ t166) ++ t167) ++ (strOfNums y168))) else (none))) else (none)) else (none))) else (none))) else (none))) else (none))) else (none))) else (none))) else (none))) else (none))) else (none))) else (none))) else (none))) else (none)) = some r := h
  clear h
  by_cases c3 : 8 ≤ 281474976710656
  · rw [if_pos c3] at H
    have c3b0 := eq_true c3
    have c3b1 : decide (8 ≤ 281474976710656) = true := decide_eq_true c3
    clear c3
    obtain ⟨y155, hy155⟩ : ∃ y_ : List Int, y_ = (List.replicate 8 0) := ⟨_, rfl⟩
    replace H : (if 8 + (strOfNums y155).size ≤ 9223372036854775807 then ((spec_l01Little.f k 2 2).bind fun t158 => (if ((⟨#[127, 69, 76, 70, 2, 1, 1, 0]⟩ : ByteArray) ++ (strOfNums y155)).size + t158.size ≤ 9223372036854775807 then ((spec_l01Little.f k 62 2).bind fun t159 => (if (((⟨#[127, 69, 76, 70, 2, 1, 1, 0]⟩ : ByteArray) ++ (strOfNums y155)) ++ t158).size + t159.size ≤ 9223372036854775807 then ((spec_l01Little.f k 1 4).bind fun t160 => (if ((((⟨#[127, 69, 76, 70, 2, 1, 1, 0]⟩ : ByteArray) ++ (strOfNums y155)) ++ t158) ++ t159).size + t160.size ≤ 9223372036854775807 then ((spec_l01Little.f k a0 8).bind fun t161 => (if (((((⟨#[127, 69, 76, 70, 2, 1, 1, 0]⟩ : ByteArray) ++ (strOfNums y155)) ++ t158) ++ t159) ++ t160).size + t161.size ≤ 9223372036854775807 then ((spec_l01Little.f k 64 8).bind fun t162 => (if ((((((⟨#[127, 69, 76, 70, 2, 1, 1, 0]⟩ : ByteArray) ++ (strOfNums y155)) ++ t158) ++ t159) ++ t160) ++ t161).size + t162.size ≤ 9223372036854775807 then ((spec_l01Little.f k 0 8).bind fun t163 => (if (((((((⟨#[127, 69, 76, 70, 2, 1, 1, 0]⟩ : ByteArray) ++ (strOfNums y155)) ++ t158) ++ t159) ++ t160) ++ t161) ++ t162).size + t163.size ≤ 9223372036854775807 then ((spec_l01Little.f k 0 4).bind fun t164 => (if ((((((((⟨#[127, 69, 76, 70, 2, 1, 1, 0]⟩ : ByteArray) ++ (strOfNums y155)) ++ t158) ++ t159) ++ t160) ++ t161) ++ t162) ++ t163).size + t164.size ≤ 9223372036854775807 then ((spec_l01Little.f k 64 2).bind fun t165 => (if (((((((((⟨#[127, 69, 76, 70, 2, 1, 1, 0]⟩ : ByteArray) ++ (strOfNums y155)) ++ t158) ++ t159) ++ t160) ++ t161) ++ t162) ++ t163) ++ t164).size + t165.size ≤ 9223372036854775807 then ((spec_l01Little.f k 56 2).bind fun t166 => (if ((((((((((⟨#[127, 69, 76, 70, 2, 1, 1, 0]⟩ : ByteArray) ++ (strOfNums y155)) ++ t158) ++ t159) ++ t160) ++ t161) ++ t162) ++ t163) ++ t164) ++ t165).size + t166.size ≤ 9223372036854775807 then ((spec_l01Little.f k a1 2).bind fun t167 => (if (((((((((((⟨#[127, 69, 76, 70, 2, 1, 1, 0]⟩ : ByteArray) ++ (strOfNums y155)) ++ t158) ++ t159) ++ t160) ++ t161) ++ t162) ++ t163) ++ t164) ++ t165) ++ t166).size + t167.size ≤ 9223372036854775807 then (if 6 ≤ 281474976710656 then ((some (List.replicate 6 0 : List Int)).bind fun y168 => (if ((((((((((((⟨#[127, 69, 76, 70, 2, 1, 1, 0]⟩ : ByteArray) ++ (strOfNums y155)) ++ t158) ++ t159) ++ t160) ++ t161) ++ t162) ++ t163) ++ t164) ++ t165) ++ t166) ++ t167).size + (strOfNums y168).size ≤ 9223372036854775807 then (some (((((((((((((⟨#[127, 69, 76, 70, 2, 1, 1, 0]⟩ : ByteArray) ++ (strOfNums y155)) ++ t158) ++ t159) ++ t160) ++ t161) ++ t162) ++ t163) ++ t164) ++ t165) ++ t166) ++ t167) ++ (strOfNums y168))) else (none))) else (none)) else (none))) else (none))) else (none))) else (none))) else (none))) else (none))) else (none))) else (none))) else (none))) else (none))) else (none)) = some r := by first | (rw [hy155]; with_reducible exact H) | (have H2_ := (Option.bind_some _ _).symm.trans H; rw [hy155]; with_reducible exact H2_) | (have H2_ := (Option.bind_some _ _).symm.trans H; with_reducible exact H2_) | with_reducible exact H | (rw [hy155]; exact H) | exact H
    have Ny155 := Aside0.mk hy155
    clear hy155
    by_cases c4 : 8 + (strOfNums y155).size ≤ 9223372036854775807
    · rw [if_pos c4] at H
      have c4b0 := eq_true c4
      have c4b1 : decide (8 + (strOfNums y155).size ≤ 9223372036854775807) = true := decide_eq_true c4
      try have c4b2 : (9223372036854775807 < 8 + (strOfNums y155).size) = False := eq_false (Nat.not_lt.2 c4)
      replace H := Option.bind_eq_some_iff.mp H
      obtain ⟨t158, A50, H⟩ := H
      replace H : (if ((⟨#[127, 69, 76, 70, 2, 1, 1, 0]⟩ : ByteArray) ++ (strOfNums y155)).size + t158.size ≤ 9223372036854775807 then ((spec_l01Little.f k 62 2).bind fun t159 => (if (((⟨#[127, 69, 76, 70, 2, 1, 1, 0]⟩ : ByteArray) ++ (strOfNums y155)) ++ t158).size + t159.size ≤ 9223372036854775807 then ((spec_l01Little.f k 1 4).bind fun t160 => (if ((((⟨#[127, 69, 76, 70, 2, 1, 1, 0]⟩ : ByteArray) ++ (strOfNums y155)) ++ t158) ++ t159).size + t160.size ≤ 9223372036854775807 then ((spec_l01Little.f k a0 8).bind fun t161 => (if (((((⟨#[127, 69, 76, 70, 2, 1, 1, 0]⟩ : ByteArray) ++ (strOfNums y155)) ++ t158) ++ t159) ++ t160).size + t161.size ≤ 9223372036854775807 then ((spec_l01Little.f k 64 8).bind fun t162 => (if ((((((⟨#[127, 69, 76, 70, 2, 1, 1, 0]⟩ : ByteArray) ++ (strOfNums y155)) ++ t158) ++ t159) ++ t160) ++ t161).size + t162.size ≤ 9223372036854775807 then ((spec_l01Little.f k 0 8).bind fun t163 => (if (((((((⟨#[127, 69, 76, 70, 2, 1, 1, 0]⟩ : ByteArray) ++ (strOfNums y155)) ++ t158) ++ t159) ++ t160) ++ t161) ++ t162).size + t163.size ≤ 9223372036854775807 then ((spec_l01Little.f k 0 4).bind fun t164 => (if ((((((((⟨#[127, 69, 76, 70, 2, 1, 1, 0]⟩ : ByteArray) ++ (strOfNums y155)) ++ t158) ++ t159) ++ t160) ++ t161) ++ t162) ++ t163).size + t164.size ≤ 9223372036854775807 then ((spec_l01Little.f k 64 2).bind fun t165 => (if (((((((((⟨#[127, 69, 76, 70, 2, 1, 1, 0]⟩ : ByteArray) ++ (strOfNums y155)) ++ t158) ++ t159) ++ t160) ++ t161) ++ t162) ++ t163) ++ t164).size + t165.size ≤ 9223372036854775807 then ((spec_l01Little.f k 56 2).bind fun t166 => (if ((((((((((⟨#[127, 69, 76, 70, 2, 1, 1, 0]⟩ : ByteArray) ++ (strOfNums y155)) ++ t158) ++ t159) ++ t160) ++ t161) ++ t162) ++ t163) ++ t164) ++ t165).size + t166.size ≤ 9223372036854775807 then ((spec_l01Little.f k a1 2).bind fun t167 => (if (((((((((((⟨#[127, 69, 76, 70, 2, 1, 1, 0]⟩ : ByteArray) ++ (strOfNums y155)) ++ t158) ++ t159) ++ t160) ++ t161) ++ t162) ++ t163) ++ t164) ++ t165) ++ t166).size + t167.size ≤ 9223372036854775807 then (if 6 ≤ 281474976710656 then ((some (List.replicate 6 0 : List Int)).bind fun y168 => (if ((((((((((((⟨#[127, 69, 76, 70, 2, 1, 1, 0]⟩ : ByteArray) ++ (strOfNums y155)) ++ t158) ++ t159) ++ t160) ++ t161) ++ t162) ++ t163) ++ t164) ++ t165) ++ t166) ++ t167).size + (strOfNums y168).size ≤ 9223372036854775807 then (some (((((((((((((⟨#[127, 69, 76, 70, 2, 1, 1, 0]⟩ : ByteArray) ++ (strOfNums y155)) ++ t158) ++ t159) ++ t160) ++ t161) ++ t162) ++ t163) ++ t164) ++ t165) ++ t166) ++ t167) ++ (strOfNums y168))) else (none))) else (none)) else (none))) else (none))) else (none))) else (none))) else (none))) else (none))) else (none))) else (none))) else (none))) else (none)) = some r := H
      have A5 := Aside0.mk A50
      clear A50
      by_cases c6 : ((⟨#[127, 69, 76, 70, 2, 1, 1, 0]⟩ : ByteArray) ++ (strOfNums y155)).size + t158.size ≤ 9223372036854775807
      · rw [if_pos c6] at H
        have c6b0 := eq_true c6
        have c6b1 : decide (((⟨#[127, 69, 76, 70, 2, 1, 1, 0]⟩ : ByteArray) ++ (strOfNums y155)).size + t158.size ≤ 9223372036854775807) = true := decide_eq_true c6
        try have c6b2 : (9223372036854775807 < ((⟨#[127, 69, 76, 70, 2, 1, 1, 0]⟩ : ByteArray) ++ (strOfNums y155)).size + t158.size) = False := eq_false (Nat.not_lt.2 c6)
        have c6b4 := c6b2
        (try simp only [ByteArray.size_append, show ((⟨#[127, 69, 76, 70, 2, 1, 1, 0]⟩ : ByteArray)).size = 8 from rfl] at c6b4)
        replace H := Option.bind_eq_some_iff.mp H
        obtain ⟨t159, A70, H⟩ := H
        replace H : (if (((⟨#[127, 69, 76, 70, 2, 1, 1, 0]⟩ : ByteArray) ++ (strOfNums y155)) ++ t158).size + t159.size ≤ 9223372036854775807 then ((spec_l01Little.f k 1 4).bind fun t160 => (if ((((⟨#[127, 69, 76, 70, 2, 1, 1, 0]⟩ : ByteArray) ++ (strOfNums y155)) ++ t158) ++ t159).size + t160.size ≤ 9223372036854775807 then ((spec_l01Little.f k a0 8).bind fun t161 => (if (((((⟨#[127, 69, 76, 70, 2, 1, 1, 0]⟩ : ByteArray) ++ (strOfNums y155)) ++ t158) ++ t159) ++ t160).size + t161.size ≤ 9223372036854775807 then ((spec_l01Little.f k 64 8).bind fun t162 => (if ((((((⟨#[127, 69, 76, 70, 2, 1, 1, 0]⟩ : ByteArray) ++ (strOfNums y155)) ++ t158) ++ t159) ++ t160) ++ t161).size + t162.size ≤ 9223372036854775807 then ((spec_l01Little.f k 0 8).bind fun t163 => (if (((((((⟨#[127, 69, 76, 70, 2, 1, 1, 0]⟩ : ByteArray) ++ (strOfNums y155)) ++ t158) ++ t159) ++ t160) ++ t161) ++ t162).size + t163.size ≤ 9223372036854775807 then ((spec_l01Little.f k 0 4).bind fun t164 => (if ((((((((⟨#[127, 69, 76, 70, 2, 1, 1, 0]⟩ : ByteArray) ++ (strOfNums y155)) ++ t158) ++ t159) ++ t160) ++ t161) ++ t162) ++ t163).size + t164.size ≤ 9223372036854775807 then ((spec_l01Little.f k 64 2).bind fun t165 => (if (((((((((⟨#[127, 69, 76, 70, 2, 1, 1, 0]⟩ : ByteArray) ++ (strOfNums y155)) ++ t158) ++ t159) ++ t160) ++ t161) ++ t162) ++ t163) ++ t164).size + t165.size ≤ 9223372036854775807 then ((spec_l01Little.f k 56 2).bind fun t166 => (if ((((((((((⟨#[127, 69, 76, 70, 2, 1, 1, 0]⟩ : ByteArray) ++ (strOfNums y155)) ++ t158) ++ t159) ++ t160) ++ t161) ++ t162) ++ t163) ++ t164) ++ t165).size + t166.size ≤ 9223372036854775807 then ((spec_l01Little.f k a1 2).bind fun t167 => (if (((((((((((⟨#[127, 69, 76, 70, 2, 1, 1, 0]⟩ : ByteArray) ++ (strOfNums y155)) ++ t158) ++ t159) ++ t160) ++ t161) ++ t162) ++ t163) ++ t164) ++ t165) ++ t166).size + t167.size ≤ 9223372036854775807 then (if 6 ≤ 281474976710656 then ((some (List.replicate 6 0 : List Int)).bind fun y168 => (if ((((((((((((⟨#[127, 69, 76, 70, 2, 1, 1, 0]⟩ : ByteArray) ++ (strOfNums y155)) ++ t158) ++ t159) ++ t160) ++ t161) ++ t162) ++ t163) ++ t164) ++ t165) ++ t166) ++ t167).size + (strOfNums y168).size ≤ 9223372036854775807 then (some (((((((((((((⟨#[127, 69, 76, 70, 2, 1, 1, 0]⟩ : ByteArray) ++ (strOfNums y155)) ++ t158) ++ t159) ++ t160) ++ t161) ++ t162) ++ t163) ++ t164) ++ t165) ++ t166) ++ t167) ++ (strOfNums y168))) else (none))) else (none)) else (none))) else (none))) else (none))) else (none))) else (none))) else (none))) else (none))) else (none))) else (none)) = some r := H
        have A7 := Aside0.mk A70
        clear A70
        by_cases c8 : (((⟨#[127, 69, 76, 70, 2, 1, 1, 0]⟩ : ByteArray) ++ (strOfNums y155)) ++ t158).size + t159.size ≤ 9223372036854775807
        · rw [if_pos c8] at H
          have c8b0 := eq_true c8
          have c8b1 : decide ((((⟨#[127, 69, 76, 70, 2, 1, 1, 0]⟩ : ByteArray) ++ (strOfNums y155)) ++ t158).size + t159.size ≤ 9223372036854775807) = true := decide_eq_true c8
          try have c8b2 : (9223372036854775807 < (((⟨#[127, 69, 76, 70, 2, 1, 1, 0]⟩ : ByteArray) ++ (strOfNums y155)) ++ t158).size + t159.size) = False := eq_false (Nat.not_lt.2 c8)
          have c8b4 := c8b2
          (try simp only [ByteArray.size_append, show ((⟨#[127, 69, 76, 70, 2, 1, 1, 0]⟩ : ByteArray)).size = 8 from rfl] at c8b4)
          replace H := Option.bind_eq_some_iff.mp H
          obtain ⟨t160, A90, H⟩ := H
          replace H : (if ((((⟨#[127, 69, 76, 70, 2, 1, 1, 0]⟩ : ByteArray) ++ (strOfNums y155)) ++ t158) ++ t159).size + t160.size ≤ 9223372036854775807 then ((spec_l01Little.f k a0 8).bind fun t161 => (if (((((⟨#[127, 69, 76, 70, 2, 1, 1, 0]⟩ : ByteArray) ++ (strOfNums y155)) ++ t158) ++ t159) ++ t160).size + t161.size ≤ 9223372036854775807 then ((spec_l01Little.f k 64 8).bind fun t162 => (if ((((((⟨#[127, 69, 76, 70, 2, 1, 1, 0]⟩ : ByteArray) ++ (strOfNums y155)) ++ t158) ++ t159) ++ t160) ++ t161).size + t162.size ≤ 9223372036854775807 then ((spec_l01Little.f k 0 8).bind fun t163 => (if (((((((⟨#[127, 69, 76, 70, 2, 1, 1, 0]⟩ : ByteArray) ++ (strOfNums y155)) ++ t158) ++ t159) ++ t160) ++ t161) ++ t162).size + t163.size ≤ 9223372036854775807 then ((spec_l01Little.f k 0 4).bind fun t164 => (if ((((((((⟨#[127, 69, 76, 70, 2, 1, 1, 0]⟩ : ByteArray) ++ (strOfNums y155)) ++ t158) ++ t159) ++ t160) ++ t161) ++ t162) ++ t163).size + t164.size ≤ 9223372036854775807 then ((spec_l01Little.f k 64 2).bind fun t165 => (if (((((((((⟨#[127, 69, 76, 70, 2, 1, 1, 0]⟩ : ByteArray) ++ (strOfNums y155)) ++ t158) ++ t159) ++ t160) ++ t161) ++ t162) ++ t163) ++ t164).size + t165.size ≤ 9223372036854775807 then ((spec_l01Little.f k 56 2).bind fun t166 => (if ((((((((((⟨#[127, 69, 76, 70, 2, 1, 1, 0]⟩ : ByteArray) ++ (strOfNums y155)) ++ t158) ++ t159) ++ t160) ++ t161) ++ t162) ++ t163) ++ t164) ++ t165).size + t166.size ≤ 9223372036854775807 then ((spec_l01Little.f k a1 2).bind fun t167 => (if (((((((((((⟨#[127, 69, 76, 70, 2, 1, 1, 0]⟩ : ByteArray) ++ (strOfNums y155)) ++ t158) ++ t159) ++ t160) ++ t161) ++ t162) ++ t163) ++ t164) ++ t165) ++ t166).size + t167.size ≤ 9223372036854775807 then (if 6 ≤ 281474976710656 then ((some (List.replicate 6 0 : List Int)).bind fun y168 => (if ((((((((((((⟨#[127, 69, 76, 70, 2, 1, 1, 0]⟩ : ByteArray) ++ (strOfNums y155)) ++ t158) ++ t159) ++ t160) ++ t161) ++ t162) ++ t163) ++ t164) ++ t165) ++ t166) ++ t167).size + (strOfNums y168).size ≤ 9223372036854775807 then (some (((((((((((((⟨#[127, 69, 76, 70, 2, 1, 1, 0]⟩ : ByteArray) ++ (strOfNums y155)) ++ t158) ++ t159) ++ t160) ++ t161) ++ t162) ++ t163) ++ t164) ++ t165) ++ t166) ++ t167) ++ (strOfNums y168))) else (none))) else (none)) else (none))) else (none))) else (none))) else (none))) else (none))) else (none))) else (none))) else (none)) = some r := H
          have A9 := Aside0.mk A90
          clear A90
          by_cases c10 : ((((⟨#[127, 69, 76, 70, 2, 1, 1, 0]⟩ : ByteArray) ++ (strOfNums y155)) ++ t158) ++ t159).size + t160.size ≤ 9223372036854775807
          · rw [if_pos c10] at H
            have c10b0 := eq_true c10
            have c10b1 : decide (((((⟨#[127, 69, 76, 70, 2, 1, 1, 0]⟩ : ByteArray) ++ (strOfNums y155)) ++ t158) ++ t159).size + t160.size ≤ 9223372036854775807) = true := decide_eq_true c10
            try have c10b2 : (9223372036854775807 < ((((⟨#[127, 69, 76, 70, 2, 1, 1, 0]⟩ : ByteArray) ++ (strOfNums y155)) ++ t158) ++ t159).size + t160.size) = False := eq_false (Nat.not_lt.2 c10)
            have c10b4 := c10b2
            (try simp only [ByteArray.size_append, show ((⟨#[127, 69, 76, 70, 2, 1, 1, 0]⟩ : ByteArray)).size = 8 from rfl] at c10b4)
            replace H := Option.bind_eq_some_iff.mp H
            obtain ⟨t161, A110, H⟩ := H
            replace H : (if (((((⟨#[127, 69, 76, 70, 2, 1, 1, 0]⟩ : ByteArray) ++ (strOfNums y155)) ++ t158) ++ t159) ++ t160).size + t161.size ≤ 9223372036854775807 then ((spec_l01Little.f k 64 8).bind fun t162 => (if ((((((⟨#[127, 69, 76, 70, 2, 1, 1, 0]⟩ : ByteArray) ++ (strOfNums y155)) ++ t158) ++ t159) ++ t160) ++ t161).size + t162.size ≤ 9223372036854775807 then ((spec_l01Little.f k 0 8).bind fun t163 => (if (((((((⟨#[127, 69, 76, 70, 2, 1, 1, 0]⟩ : ByteArray) ++ (strOfNums y155)) ++ t158) ++ t159) ++ t160) ++ t161) ++ t162).size + t163.size ≤ 9223372036854775807 then ((spec_l01Little.f k 0 4).bind fun t164 => (if ((((((((⟨#[127, 69, 76, 70, 2, 1, 1, 0]⟩ : ByteArray) ++ (strOfNums y155)) ++ t158) ++ t159) ++ t160) ++ t161) ++ t162) ++ t163).size + t164.size ≤ 9223372036854775807 then ((spec_l01Little.f k 64 2).bind fun t165 => (if (((((((((⟨#[127, 69, 76, 70, 2, 1, 1, 0]⟩ : ByteArray) ++ (strOfNums y155)) ++ t158) ++ t159) ++ t160) ++ t161) ++ t162) ++ t163) ++ t164).size + t165.size ≤ 9223372036854775807 then ((spec_l01Little.f k 56 2).bind fun t166 => (if ((((((((((⟨#[127, 69, 76, 70, 2, 1, 1, 0]⟩ : ByteArray) ++ (strOfNums y155)) ++ t158) ++ t159) ++ t160) ++ t161) ++ t162) ++ t163) ++ t164) ++ t165).size + t166.size ≤ 9223372036854775807 then ((spec_l01Little.f k a1 2).bind fun t167 => (if (((((((((((⟨#[127, 69, 76, 70, 2, 1, 1, 0]⟩ : ByteArray) ++ (strOfNums y155)) ++ t158) ++ t159) ++ t160) ++ t161) ++ t162) ++ t163) ++ t164) ++ t165) ++ t166).size + t167.size ≤ 9223372036854775807 then (if 6 ≤ 281474976710656 then ((some (List.replicate 6 0 : List Int)).bind fun y168 => (if ((((((((((((⟨#[127, 69, 76, 70, 2, 1, 1, 0]⟩ : ByteArray) ++ (strOfNums y155)) ++ t158) ++ t159) ++ t160) ++ t161) ++ t162) ++ t163) ++ t164) ++ t165) ++ t166) ++ t167).size + (strOfNums y168).size ≤ 9223372036854775807 then (some (((((((((((((⟨#[127, 69, 76, 70, 2, 1, 1, 0]⟩ : ByteArray) ++ (strOfNums y155)) ++ t158) ++ t159) ++ t160) ++ t161) ++ t162) ++ t163) ++ t164) ++ t165) ++ t166) ++ t167) ++ (strOfNums y168))) else (none))) else (none)) else (none))) else (none))) else (none))) else (none))) else (none))) else (none))) else (none)) = some r := H
            have A11 := Aside0.mk A110
            clear A110
            by_cases c12 : (((((⟨#[127, 69, 76, 70, 2, 1, 1, 0]⟩ : ByteArray) ++ (strOfNums y155)) ++ t158) ++ t159) ++ t160).size + t161.size ≤ 9223372036854775807
            · rw [if_pos c12] at H
              have c12b0 := eq_true c12
              have c12b1 : decide ((((((⟨#[127, 69, 76, 70, 2, 1, 1, 0]⟩ : ByteArray) ++ (strOfNums y155)) ++ t158) ++ t159) ++ t160).size + t161.size ≤ 9223372036854775807) = true := decide_eq_true c12
              try have c12b2 : (9223372036854775807 < (((((⟨#[127, 69, 76, 70, 2, 1, 1, 0]⟩ : ByteArray) ++ (strOfNums y155)) ++ t158) ++ t159) ++ t160).size + t161.size) = False := eq_false (Nat.not_lt.2 c12)
              have c12b4 := c12b2
              (try simp only [ByteArray.size_append, show ((⟨#[127, 69, 76, 70, 2, 1, 1, 0]⟩ : ByteArray)).size = 8 from rfl] at c12b4)
              replace H := Option.bind_eq_some_iff.mp H
              obtain ⟨t162, A130, H⟩ := H
              replace H : (if ((((((⟨#[127, 69, 76, 70, 2, 1, 1, 0]⟩ : ByteArray) ++ (strOfNums y155)) ++ t158) ++ t159) ++ t160) ++ t161).size + t162.size ≤ 9223372036854775807 then ((spec_l01Little.f k 0 8).bind fun t163 => (if (((((((⟨#[127, 69, 76, 70, 2, 1, 1, 0]⟩ : ByteArray) ++ (strOfNums y155)) ++ t158) ++ t159) ++ t160) ++ t161) ++ t162).size + t163.size ≤ 9223372036854775807 then ((spec_l01Little.f k 0 4).bind fun t164 => (if ((((((((⟨#[127, 69, 76, 70, 2, 1, 1, 0]⟩ : ByteArray) ++ (strOfNums y155)) ++ t158) ++ t159) ++ t160) ++ t161) ++ t162) ++ t163).size + t164.size ≤ 9223372036854775807 then ((spec_l01Little.f k 64 2).bind fun t165 => (if (((((((((⟨#[127, 69, 76, 70, 2, 1, 1, 0]⟩ : ByteArray) ++ (strOfNums y155)) ++ t158) ++ t159) ++ t160) ++ t161) ++ t162) ++ t163) ++ t164).size + t165.size ≤ 9223372036854775807 then ((spec_l01Little.f k 56 2).bind fun t166 => (if ((((((((((⟨#[127, 69, 76, 70, 2, 1, 1, 0]⟩ : ByteArray) ++ (strOfNums y155)) ++ t158) ++ t159) ++ t160) ++ t161) ++ t162) ++ t163) ++ t164) ++ t165).size + t166.size ≤ 9223372036854775807 then ((spec_l01Little.f k a1 2).bind fun t167 => (if (((((((((((⟨#[127, 69, 76, 70, 2, 1, 1, 0]⟩ : ByteArray) ++ (strOfNums y155)) ++ t158) ++ t159) ++ t160) ++ t161) ++ t162) ++ t163) ++ t164) ++ t165) ++ t166).size + t167.size ≤ 9223372036854775807 then (if 6 ≤ 281474976710656 then ((some (List.replicate 6 0 : List Int)).bind fun y168 => (if ((((((((((((⟨#[127, 69, 76, 70, 2, 1, 1, 0]⟩ : ByteArray) ++ (strOfNums y155)) ++ t158) ++ t159) ++ t160) ++ t161) ++ t162) ++ t163) ++ t164) ++ t165) ++ t166) ++ t167).size + (strOfNums y168).size ≤ 9223372036854775807 then (some (((((((((((((⟨#[127, 69, 76, 70, 2, 1, 1, 0]⟩ : ByteArray) ++ (strOfNums y155)) ++ t158) ++ t159) ++ t160) ++ t161) ++ t162) ++ t163) ++ t164) ++ t165) ++ t166) ++ t167) ++ (strOfNums y168))) else (none))) else (none)) else (none))) else (none))) else (none))) else (none))) else (none))) else (none)) = some r := H
              have A13 := Aside0.mk A130
              clear A130
              by_cases c14 : ((((((⟨#[127, 69, 76, 70, 2, 1, 1, 0]⟩ : ByteArray) ++ (strOfNums y155)) ++ t158) ++ t159) ++ t160) ++ t161).size + t162.size ≤ 9223372036854775807
              · rw [if_pos c14] at H
                have c14b0 := eq_true c14
                have c14b1 : decide (((((((⟨#[127, 69, 76, 70, 2, 1, 1, 0]⟩ : ByteArray) ++ (strOfNums y155)) ++ t158) ++ t159) ++ t160) ++ t161).size + t162.size ≤ 9223372036854775807) = true := decide_eq_true c14
                try have c14b2 : (9223372036854775807 < ((((((⟨#[127, 69, 76, 70, 2, 1, 1, 0]⟩ : ByteArray) ++ (strOfNums y155)) ++ t158) ++ t159) ++ t160) ++ t161).size + t162.size) = False := eq_false (Nat.not_lt.2 c14)
                have c14b4 := c14b2
                (try simp only [ByteArray.size_append, show ((⟨#[127, 69, 76, 70, 2, 1, 1, 0]⟩ : ByteArray)).size = 8 from rfl] at c14b4)
                replace H := Option.bind_eq_some_iff.mp H
                obtain ⟨t163, A150, H⟩ := H
                replace H : (if (((((((⟨#[127, 69, 76, 70, 2, 1, 1, 0]⟩ : ByteArray) ++ (strOfNums y155)) ++ t158) ++ t159) ++ t160) ++ t161) ++ t162).size + t163.size ≤ 9223372036854775807 then ((spec_l01Little.f k 0 4).bind fun t164 => (if ((((((((⟨#[127, 69, 76, 70, 2, 1, 1, 0]⟩ : ByteArray) ++ (strOfNums y155)) ++ t158) ++ t159) ++ t160) ++ t161) ++ t162) ++ t163).size + t164.size ≤ 9223372036854775807 then ((spec_l01Little.f k 64 2).bind fun t165 => (if (((((((((⟨#[127, 69, 76, 70, 2, 1, 1, 0]⟩ : ByteArray) ++ (strOfNums y155)) ++ t158) ++ t159) ++ t160) ++ t161) ++ t162) ++ t163) ++ t164).size + t165.size ≤ 9223372036854775807 then ((spec_l01Little.f k 56 2).bind fun t166 => (if ((((((((((⟨#[127, 69, 76, 70, 2, 1, 1, 0]⟩ : ByteArray) ++ (strOfNums y155)) ++ t158) ++ t159) ++ t160) ++ t161) ++ t162) ++ t163) ++ t164) ++ t165).size + t166.size ≤ 9223372036854775807 then ((spec_l01Little.f k a1 2).bind fun t167 => (if (((((((((((⟨#[127, 69, 76, 70, 2, 1, 1, 0]⟩ : ByteArray) ++ (strOfNums y155)) ++ t158) ++ t159) ++ t160) ++ t161) ++ t162) ++ t163) ++ t164) ++ t165) ++ t166).size + t167.size ≤ 9223372036854775807 then (if 6 ≤ 281474976710656 then ((some (List.replicate 6 0 : List Int)).bind fun y168 => (if ((((((((((((⟨#[127, 69, 76, 70, 2, 1, 1, 0]⟩ : ByteArray) ++ (strOfNums y155)) ++ t158) ++ t159) ++ t160) ++ t161) ++ t162) ++ t163) ++ t164) ++ t165) ++ t166) ++ t167).size + (strOfNums y168).size ≤ 9223372036854775807 then (some (((((((((((((⟨#[127, 69, 76, 70, 2, 1, 1, 0]⟩ : ByteArray) ++ (strOfNums y155)) ++ t158) ++ t159) ++ t160) ++ t161) ++ t162) ++ t163) ++ t164) ++ t165) ++ t166) ++ t167) ++ (strOfNums y168))) else (none))) else (none)) else (none))) else (none))) else (none))) else (none))) else (none)) = some r := H
                have A15 := Aside0.mk A150
                clear A150
                by_cases c16 : (((((((⟨#[127, 69, 76, 70, 2, 1, 1, 0]⟩ : ByteArray) ++ (strOfNums y155)) ++ t158) ++ t159) ++ t160) ++ t161) ++ t162).size + t163.size ≤ 9223372036854775807
                · rw [if_pos c16] at H
                  have c16b0 := eq_true c16
                  have c16b1 : decide ((((((((⟨#[127, 69, 76, 70, 2, 1, 1, 0]⟩ : ByteArray) ++ (strOfNums y155)) ++ t158) ++ t159) ++ t160) ++ t161) ++ t162).size + t163.size ≤ 9223372036854775807) = true := decide_eq_true c16
                  try have c16b2 : (9223372036854775807 < (((((((⟨#[127, 69, 76, 70, 2, 1, 1, 0]⟩ : ByteArray) ++ (strOfNums y155)) ++ t158) ++ t159) ++ t160) ++ t161) ++ t162).size + t163.size) = False := eq_false (Nat.not_lt.2 c16)
                  have c16b4 := c16b2
                  (try simp only [ByteArray.size_append, show ((⟨#[127, 69, 76, 70, 2, 1, 1, 0]⟩ : ByteArray)).size = 8 from rfl] at c16b4)
                  replace H := Option.bind_eq_some_iff.mp H
                  obtain ⟨t164, A170, H⟩ := H
                  replace H : (if ((((((((⟨#[127, 69, 76, 70, 2, 1, 1, 0]⟩ : ByteArray) ++ (strOfNums y155)) ++ t158) ++ t159) ++ t160) ++ t161) ++ t162) ++ t163).size + t164.size ≤ 9223372036854775807 then ((spec_l01Little.f k 64 2).bind fun t165 => (if (((((((((⟨#[127, 69, 76, 70, 2, 1, 1, 0]⟩ : ByteArray) ++ (strOfNums y155)) ++ t158) ++ t159) ++ t160) ++ t161) ++ t162) ++ t163) ++ t164).size + t165.size ≤ 9223372036854775807 then ((spec_l01Little.f k 56 2).bind fun t166 => (if ((((((((((⟨#[127, 69, 76, 70, 2, 1, 1, 0]⟩ : ByteArray) ++ (strOfNums y155)) ++ t158) ++ t159) ++ t160) ++ t161) ++ t162) ++ t163) ++ t164) ++ t165).size + t166.size ≤ 9223372036854775807 then ((spec_l01Little.f k a1 2).bind fun t167 => (if (((((((((((⟨#[127, 69, 76, 70, 2, 1, 1, 0]⟩ : ByteArray) ++ (strOfNums y155)) ++ t158) ++ t159) ++ t160) ++ t161) ++ t162) ++ t163) ++ t164) ++ t165) ++ t166).size + t167.size ≤ 9223372036854775807 then (if 6 ≤ 281474976710656 then ((some (List.replicate 6 0 : List Int)).bind fun y168 => (if ((((((((((((⟨#[127, 69, 76, 70, 2, 1, 1, 0]⟩ : ByteArray) ++ (strOfNums y155)) ++ t158) ++ t159) ++ t160) ++ t161) ++ t162) ++ t163) ++ t164) ++ t165) ++ t166) ++ t167).size + (strOfNums y168).size ≤ 9223372036854775807 then (some (((((((((((((⟨#[127, 69, 76, 70, 2, 1, 1, 0]⟩ : ByteArray) ++ (strOfNums y155)) ++ t158) ++ t159) ++ t160) ++ t161) ++ t162) ++ t163) ++ t164) ++ t165) ++ t166) ++ t167) ++ (strOfNums y168))) else (none))) else (none)) else (none))) else (none))) else (none))) else (none)) = some r := H
                  have A17 := Aside0.mk A170
                  clear A170
                  by_cases c18 : ((((((((⟨#[127, 69, 76, 70, 2, 1, 1, 0]⟩ : ByteArray) ++ (strOfNums y155)) ++ t158) ++ t159) ++ t160) ++ t161) ++ t162) ++ t163).size + t164.size ≤ 9223372036854775807
                  · rw [if_pos c18] at H
                    have c18b0 := eq_true c18
                    have c18b1 : decide (((((((((⟨#[127, 69, 76, 70, 2, 1, 1, 0]⟩ : ByteArray) ++ (strOfNums y155)) ++ t158) ++ t159) ++ t160) ++ t161) ++ t162) ++ t163).size + t164.size ≤ 9223372036854775807) = true := decide_eq_true c18
                    try have c18b2 : (9223372036854775807 < ((((((((⟨#[127, 69, 76, 70, 2, 1, 1, 0]⟩ : ByteArray) ++ (strOfNums y155)) ++ t158) ++ t159) ++ t160) ++ t161) ++ t162) ++ t163).size + t164.size) = False := eq_false (Nat.not_lt.2 c18)
                    have c18b4 := c18b2
                    (try simp only [ByteArray.size_append, show ((⟨#[127, 69, 76, 70, 2, 1, 1, 0]⟩ : ByteArray)).size = 8 from rfl] at c18b4)
                    replace H := Option.bind_eq_some_iff.mp H
                    obtain ⟨t165, A190, H⟩ := H
                    replace H : (if (((((((((⟨#[127, 69, 76, 70, 2, 1, 1, 0]⟩ : ByteArray) ++ (strOfNums y155)) ++ t158) ++ t159) ++ t160) ++ t161) ++ t162) ++ t163) ++ t164).size + t165.size ≤ 9223372036854775807 then ((spec_l01Little.f k 56 2).bind fun t166 => (if ((((((((((⟨#[127, 69, 76, 70, 2, 1, 1, 0]⟩ : ByteArray) ++ (strOfNums y155)) ++ t158) ++ t159) ++ t160) ++ t161) ++ t162) ++ t163) ++ t164) ++ t165).size + t166.size ≤ 9223372036854775807 then ((spec_l01Little.f k a1 2).bind fun t167 => (if (((((((((((⟨#[127, 69, 76, 70, 2, 1, 1, 0]⟩ : ByteArray) ++ (strOfNums y155)) ++ t158) ++ t159) ++ t160) ++ t161) ++ t162) ++ t163) ++ t164) ++ t165) ++ t166).size + t167.size ≤ 9223372036854775807 then (if 6 ≤ 281474976710656 then ((some (List.replicate 6 0 : List Int)).bind fun y168 => (if ((((((((((((⟨#[127, 69, 76, 70, 2, 1, 1, 0]⟩ : ByteArray) ++ (strOfNums y155)) ++ t158) ++ t159) ++ t160) ++ t161) ++ t162) ++ t163) ++ t164) ++ t165) ++ t166) ++ t167).size + (strOfNums y168).size ≤ 9223372036854775807 then (some (((((((((((((⟨#[127, 69, 76, 70, 2, 1, 1, 0]⟩ : ByteArray) ++ (strOfNums y155)) ++ t158) ++ t159) ++ t160) ++ t161) ++ t162) ++ t163) ++ t164) ++ t165) ++ t166) ++ t167) ++ (strOfNums y168))) else (none))) else (none)) else (none))) else (none))) else (none)) = some r := H
                    have A19 := Aside0.mk A190
                    clear A190
                    by_cases c20 : (((((((((⟨#[127, 69, 76, 70, 2, 1, 1, 0]⟩ : ByteArray) ++ (strOfNums y155)) ++ t158) ++ t159) ++ t160) ++ t161) ++ t162) ++ t163) ++ t164).size + t165.size ≤ 9223372036854775807
                    · rw [if_pos c20] at H
                      have c20b0 := eq_true c20
                      have c20b1 : decide ((((((((((⟨#[127, 69, 76, 70, 2, 1, 1, 0]⟩ : ByteArray) ++ (strOfNums y155)) ++ t158) ++ t159) ++ t160) ++ t161) ++ t162) ++ t163) ++ t164).size + t165.size ≤ 9223372036854775807) = true := decide_eq_true c20
                      try have c20b2 : (9223372036854775807 < (((((((((⟨#[127, 69, 76, 70, 2, 1, 1, 0]⟩ : ByteArray) ++ (strOfNums y155)) ++ t158) ++ t159) ++ t160) ++ t161) ++ t162) ++ t163) ++ t164).size + t165.size) = False := eq_false (Nat.not_lt.2 c20)
                      have c20b4 := c20b2
                      (try simp only [ByteArray.size_append, show ((⟨#[127, 69, 76, 70, 2, 1, 1, 0]⟩ : ByteArray)).size = 8 from rfl] at c20b4)
                      replace H := Option.bind_eq_some_iff.mp H
                      obtain ⟨t166, A210, H⟩ := H
                      replace H : (if ((((((((((⟨#[127, 69, 76, 70, 2, 1, 1, 0]⟩ : ByteArray) ++ (strOfNums y155)) ++ t158) ++ t159) ++ t160) ++ t161) ++ t162) ++ t163) ++ t164) ++ t165).size + t166.size ≤ 9223372036854775807 then ((spec_l01Little.f k a1 2).bind fun t167 => (if (((((((((((⟨#[127, 69, 76, 70, 2, 1, 1, 0]⟩ : ByteArray) ++ (strOfNums y155)) ++ t158) ++ t159) ++ t160) ++ t161) ++ t162) ++ t163) ++ t164) ++ t165) ++ t166).size + t167.size ≤ 9223372036854775807 then (if 6 ≤ 281474976710656 then ((some (List.replicate 6 0 : List Int)).bind fun y168 => (if ((((((((((((⟨#[127, 69, 76, 70, 2, 1, 1, 0]⟩ : ByteArray) ++ (strOfNums y155)) ++ t158) ++ t159) ++ t160) ++ t161) ++ t162) ++ t163) ++ t164) ++ t165) ++ t166) ++ t167).size + (strOfNums y168).size ≤ 9223372036854775807 then (some (((((((((((((⟨#[127, 69, 76, 70, 2, 1, 1, 0]⟩ : ByteArray) ++ (strOfNums y155)) ++ t158) ++ t159) ++ t160) ++ t161) ++ t162) ++ t163) ++ t164) ++ t165) ++ t166) ++ t167) ++ (strOfNums y168))) else (none))) else (none)) else (none))) else (none)) = some r := H
                      have A21 := Aside0.mk A210
                      clear A210
                      by_cases c22 : ((((((((((⟨#[127, 69, 76, 70, 2, 1, 1, 0]⟩ : ByteArray) ++ (strOfNums y155)) ++ t158) ++ t159) ++ t160) ++ t161) ++ t162) ++ t163) ++ t164) ++ t165).size + t166.size ≤ 9223372036854775807
                      · rw [if_pos c22] at H
                        have c22b0 := eq_true c22
                        have c22b1 : decide (((((((((((⟨#[127, 69, 76, 70, 2, 1, 1, 0]⟩ : ByteArray) ++ (strOfNums y155)) ++ t158) ++ t159) ++ t160) ++ t161) ++ t162) ++ t163) ++ t164) ++ t165).size + t166.size ≤ 9223372036854775807) = true := decide_eq_true c22
                        try have c22b2 : (9223372036854775807 < ((((((((((⟨#[127, 69, 76, 70, 2, 1, 1, 0]⟩ : ByteArray) ++ (strOfNums y155)) ++ t158) ++ t159) ++ t160) ++ t161) ++ t162) ++ t163) ++ t164) ++ t165).size + t166.size) = False := eq_false (Nat.not_lt.2 c22)
                        have c22b4 := c22b2
                        (try simp only [ByteArray.size_append, show ((⟨#[127, 69, 76, 70, 2, 1, 1, 0]⟩ : ByteArray)).size = 8 from rfl] at c22b4)
                        replace H := Option.bind_eq_some_iff.mp H
                        obtain ⟨t167, A230, H⟩ := H
                        replace H : (if (((((((((((⟨#[127, 69, 76, 70, 2, 1, 1, 0]⟩ : ByteArray) ++ (strOfNums y155)) ++ t158) ++ t159) ++ t160) ++ t161) ++ t162) ++ t163) ++ t164) ++ t165) ++ t166).size + t167.size ≤ 9223372036854775807 then (if 6 ≤ 281474976710656 then ((some (List.replicate 6 0 : List Int)).bind fun y168 => (if ((((((((((((⟨#[127, 69, 76, 70, 2, 1, 1, 0]⟩ : ByteArray) ++ (strOfNums y155)) ++ t158) ++ t159) ++ t160) ++ t161) ++ t162) ++ t163) ++ t164) ++ t165) ++ t166) ++ t167).size + (strOfNums y168).size ≤ 9223372036854775807 then (some (((((((((((((⟨#[127, 69, 76, 70, 2, 1, 1, 0]⟩ : ByteArray) ++ (strOfNums y155)) ++ t158) ++ t159) ++ t160) ++ t161) ++ t162) ++ t163) ++ t164) ++ t165) ++ t166) ++ t167) ++ (strOfNums y168))) else (none))) else (none)) else (none)) = some r := H
                        have A23 := Aside0.mk A230
                        clear A230
                        by_cases c24 : (((((((((((⟨#[127, 69, 76, 70, 2, 1, 1, 0]⟩ : ByteArray) ++ (strOfNums y155)) ++ t158) ++ t159) ++ t160) ++ t161) ++ t162) ++ t163) ++ t164) ++ t165) ++ t166).size + t167.size ≤ 9223372036854775807
                        · rw [if_pos c24] at H
                          have c24b0 := eq_true c24
                          have c24b1 : decide ((((((((((((⟨#[127, 69, 76, 70, 2, 1, 1, 0]⟩ : ByteArray) ++ (strOfNums y155)) ++ t158) ++ t159) ++ t160) ++ t161) ++ t162) ++ t163) ++ t164) ++ t165) ++ t166).size + t167.size ≤ 9223372036854775807) = true := decide_eq_true c24
                          try have c24b2 : (9223372036854775807 < (((((((((((⟨#[127, 69, 76, 70, 2, 1, 1, 0]⟩ : ByteArray) ++ (strOfNums y155)) ++ t158) ++ t159) ++ t160) ++ t161) ++ t162) ++ t163) ++ t164) ++ t165) ++ t166).size + t167.size) = False := eq_false (Nat.not_lt.2 c24)
                          have c24b4 := c24b2
                          (try simp only [ByteArray.size_append, show ((⟨#[127, 69, 76, 70, 2, 1, 1, 0]⟩ : ByteArray)).size = 8 from rfl] at c24b4)
                          by_cases c25 : 6 ≤ 281474976710656
                          · rw [if_pos c25] at H
                            have c25b0 := eq_true c25
                            have c25b1 : decide (6 ≤ 281474976710656) = true := decide_eq_true c25
                            clear c25
                            obtain ⟨y168, hy168⟩ : ∃ y_ : List Int, y_ = (List.replicate 6 0) := ⟨_, rfl⟩
                            replace H : (if ((((((((((((⟨#[127, 69, 76, 70, 2, 1, 1, 0]⟩ : ByteArray) ++ (strOfNums y155)) ++ t158) ++ t159) ++ t160) ++ t161) ++ t162) ++ t163) ++ t164) ++ t165) ++ t166) ++ t167).size + (strOfNums y168).size ≤ 9223372036854775807 then (some (((((((((((((⟨#[127, 69, 76, 70, 2, 1, 1, 0]⟩ : ByteArray) ++ (strOfNums y155)) ++ t158) ++ t159) ++ t160) ++ t161) ++ t162) ++ t163) ++ t164) ++ t165) ++ t166) ++ t167) ++ (strOfNums y168))) else (none)) = some r := by first | (rw [hy168]; with_reducible exact H) | (have H2_ := (Option.bind_some _ _).symm.trans H; rw [hy168]; with_reducible exact H2_) | (have H2_ := (Option.bind_some _ _).symm.trans H; with_reducible exact H2_) | with_reducible exact H | (rw [hy168]; exact H) | exact H
                            have Ny168 := Aside0.mk hy168
                            clear hy168
                            by_cases c26 : ((((((((((((⟨#[127, 69, 76, 70, 2, 1, 1, 0]⟩ : ByteArray) ++ (strOfNums y155)) ++ t158) ++ t159) ++ t160) ++ t161) ++ t162) ++ t163) ++ t164) ++ t165) ++ t166) ++ t167).size + (strOfNums y168).size ≤ 9223372036854775807
                            · rw [if_pos c26] at H
                              have c26b0 := eq_true c26
                              have c26b1 : decide (((((((((((((⟨#[127, 69, 76, 70, 2, 1, 1, 0]⟩ : ByteArray) ++ (strOfNums y155)) ++ t158) ++ t159) ++ t160) ++ t161) ++ t162) ++ t163) ++ t164) ++ t165) ++ t166) ++ t167).size + (strOfNums y168).size ≤ 9223372036854775807) = true := decide_eq_true c26
                              try have c26b2 : (9223372036854775807 < ((((((((((((⟨#[127, 69, 76, 70, 2, 1, 1, 0]⟩ : ByteArray) ++ (strOfNums y155)) ++ t158) ++ t159) ++ t160) ++ t161) ++ t162) ++ t163) ++ t164) ++ t165) ++ t166) ++ t167).size + (strOfNums y168).size) = False := eq_false (Nat.not_lt.2 c26)
                              have c26b4 := c26b2
                              (try simp only [ByteArray.size_append, show ((⟨#[127, 69, 76, 70, 2, 1, 1, 0]⟩ : ByteArray)).size = 8 from rfl] at c26b4)
                              obtain rfl := Option.some.inj H
                              go_enter Try.func151, Try.ntmps151
                              try go_wp2
                              have n0_ := Aside0.mk (below_drew1 HB.out)
                              clear HB
                              have HB := n0_
                              clear n0_
                              refine start_ (n := 29) (S := fun w' => True) (ds := []) #[false, false, false, false, false, false, false, false, false, false, false, false, false, false, false, false, false, false, false, false, false, false, false, false, false, false, false, false, false] by7 rfl rfl trivial (fun hHeld => ?_); refine with_tabW spec_l10Head.tab1 spec_l10Head.bits1 (fun HT_ HW_ => ?_)
                              generalize w.drew = w27 at HB hHeld ⊢
                              refine pure_ (i := 9) (N := some 14) (v := ?_) (a' := ?_) #[false, false, false, false, false, false, false, false, false, true, false, false, false, false, false, false, false, false, false, false, false, false, false, false, false, false, false, false, false] rfl rfl (any_of HT_.out by7) (fun _ _ _ h => h) (Or.inl ⟨by rfl, ?_⟩) ?_ ?_
                              rotate_left
                              · intro w'
                                go_simp
                                with_reducible rfl
                              rotate_left
                              · simp only [Act.put, List.setIfInBounds_toArray, List.set_cons_zero, List.set_cons_succ, i64_w, i32_w]
                                rfl
                              refine pure_ (i := 22) (N := some 27) (v := ?_) (a' := ?_) #[false, false, false, false, false, false, false, false, false, true, false, false, false, false, false, false, false, false, false, false, false, false, true, false, false, false, false, false, false] rfl rfl (any_of HT_.out by7) (fun _ _ _ h => h) (Or.inl ⟨by rfl, ?_⟩) ?_ ?_
                              rotate_left
                              · intro w'
                                go_simp
                                with_reducible rfl
                              rotate_left
                              · simp only [Act.put, List.setIfInBounds_toArray, List.set_cons_zero, List.set_cons_succ, i64_w, i32_w]
                                rfl
                              refine inv_at [0, 1, 2, 3, 4, 5, 6, 7, 8, 10, 11, 12, 13, 14, 15, 16, 17, 18, 19, 20, 21, 23, 24, 25, 26, 27, 28] (fun a0_ b a w' => ∃ (v156 : Value) (v169 : Value), a = putSel a0_ b [(0, 5, v156), (1, 6, .string (strOfNums y155)), (2, 7, .string ((⟨#[127, 69, 76, 70, 2, 1, 1, 0]⟩ : ByteArray) ++ (strOfNums y155))), (3, 8, .string t158), (4, 9, .string (((⟨#[127, 69, 76, 70, 2, 1, 1, 0]⟩ : ByteArray) ++ (strOfNums y155)) ++ t158)), (5, 10, .string t159), (6, 11, .string ((((⟨#[127, 69, 76, 70, 2, 1, 1, 0]⟩ : ByteArray) ++ (strOfNums y155)) ++ t158) ++ t159)), (7, 12, .string t160), (8, 13, .string (((((⟨#[127, 69, 76, 70, 2, 1, 1, 0]⟩ : ByteArray) ++ (strOfNums y155)) ++ t158) ++ t159) ++ t160)), (10, 15, .string t161), (11, 16, .string ((((((⟨#[127, 69, 76, 70, 2, 1, 1, 0]⟩ : ByteArray) ++ (strOfNums y155)) ++ t158) ++ t159) ++ t160) ++ t161)), (12, 17, .string t162), (13, 18, .string (((((((⟨#[127, 69, 76, 70, 2, 1, 1, 0]⟩ : ByteArray) ++ (strOfNums y155)) ++ t158) ++ t159) ++ t160) ++ t161) ++ t162)), (14, 19, .string t163), (15, 20, .string ((((((((⟨#[127, 69, 76, 70, 2, 1, 1, 0]⟩ : ByteArray) ++ (strOfNums y155)) ++ t158) ++ t159) ++ t160) ++ t161) ++ t162) ++ t163)), (16, 21, .string t164), (17, 22, .string (((((((((⟨#[127, 69, 76, 70, 2, 1, 1, 0]⟩ : ByteArray) ++ (strOfNums y155)) ++ t158) ++ t159) ++ t160) ++ t161) ++ t162) ++ t163) ++ t164)), (18, 23, .string t165), (19, 24, .string ((((((((((⟨#[127, 69, 76, 70, 2, 1, 1, 0]⟩ : ByteArray) ++ (strOfNums y155)) ++ t158) ++ t159) ++ t160) ++ t161) ++ t162) ++ t163) ++ t164) ++ t165)), (20, 25, .string t166), (21, 26, .string (((((((((((⟨#[127, 69, 76, 70, 2, 1, 1, 0]⟩ : ByteArray) ++ (strOfNums y155)) ++ t158) ++ t159) ++ t160) ++ t161) ++ t162) ++ t163) ++ t164) ++ t165) ++ t166)), (23, 28, .string t167), (24, 29, .string ((((((((((((⟨#[127, 69, 76, 70, 2, 1, 1, 0]⟩ : ByteArray) ++ (strOfNums y155)) ++ t158) ++ t159) ++ t160) ++ t161) ++ t162) ++ t163) ++ t164) ++ t165) ++ t166) ++ t167)), (25, 30, v169), (26, 31, .string (strOfNums y168)), (27, 32, .string (((((((((((((⟨#[127, 69, 76, 70, 2, 1, 1, 0]⟩ : ByteArray) ++ (strOfNums y155)) ++ t158) ++ t159) ++ t160) ++ t161) ++ t162) ++ t163) ++ t164) ++ t165) ++ t166) ++ t167) ++ (strOfNums y168))), (28, 4, .string (((((((((((((⟨#[127, 69, 76, 70, 2, 1, 1, 0]⟩ : ByteArray) ++ (strOfNums y155)) ++ t158) ++ t159) ++ t160) ++ t161) ++ t162) ++ t163) ++ t164) ++ t165) ++ t166) ++ t167) ++ (strOfNums y168)))] ∧ (Below w.heap.size w w') ∧ (b 0 = true → Kd.R (Kd.int .u8) 5 w' w.heap.size (fun _ => True) v156 y155) ∧ (b 25 = true → Kd.R (Kd.int .u8) 5 w' w.heap.size (fun _ => True) v169 y168)) HT_.out HW_.out by7 by7 ?_ ?_ ?_
                              · exact ⟨.bool false, .bool false, by simp only [putSel, Bool.false_eq_true, if_false], HB.out, fun h_ => absurd h_ (by decide), fun h_ => absurd h_ (by decide)⟩
                              · skip
                                clear HB
                                refine steps_cons ?_ ?_
                                · rintro b a w' ⟨v156, v169, ha, Q_HB, Q_HO157, Q_HO170⟩ hb_ hon hoff
                                  refine ⟨_, rfl, fun K hK => ?_⟩
                                  replace ha := Aside0.mk ha
                                  have HB := Aside0.mk Q_HB
                                  refine Kd.R_make_step (Kd.int .u8) _ 5 (by rfl) (N := 5) rfl 87 _ _ rfl 8 rfl rfl Try.underlying87 (.int .u8 0) 1 info5 rfl (by decide) (by omega) 0 (ok := fun _ => True) (okp := fun _ => True) rfl (fun _ hk => hk) trivial (by omega) (by omega) (Below.refl _ _) (Nat.le_refl _) ?_
                                  intro v156 w28 ho29 hb hg_ hnew_
                                  clear hg_ hnew_
                                  (first | rw [← Ny155.out] at ho29 | (simp only [Int.reduceToNat] at ho29; rw [← Ny155.out] at ho29))
                                  have n0_ := Aside0.mk (Kd.R_lower ho29 (below_size by1))
                                  have n1_ := Aside0.mk (below_step by1 hb)
                                  have z_HO170 := fun (h0_ : b 25 = true) => (show Kd.R (Kd.int .u8) 5 w28 w.heap.size (fun _ => True) v169 y168 from by first | exact (Kd.R_elder' by11 (Kd.R_base ho29) hb) | exact Kd.R_mono (Kd.R_elder' by11 (Kd.R_base ho29) hb) (fun _ h_ => by first | trivial | exact h_ | exact h_.1))
                                  clear HB
                                  have HO157 := n0_
                                  have HB := n1_
                                  clear n0_ n1_
                                  clear hb ho29
                                  refine hK.out _ _ ⟨v156, v169, (by rw [ha.out]; exact putSel_upk 0 hb_ rfl rfl rfl), by1, fun _ => (by (with_reducible repeat (first | apply Kd.R_alloc | apply Kd.R_drewN | apply Kd.R_drew)); exact HO157.out), z_HO170⟩
                                refine steps_cons ?_ ?_
                                · rintro b a w' ⟨v156, v169, ha, Q_HB, Q_HO157, Q_HO170⟩ hb_ hon hoff
                                  refine ⟨_, rfl, fun K hK => ?_⟩
                                  have e5 : a.tmps[5]? = some (v156) := by rw [ha]; exact putSel_on (e := (0, 5, v156)) 0 rfl rfl (hon 0 by7) rfl
                                  replace ha := Aside0.mk ha
                                  have HB := Aside0.mk Q_HB
                                  have HO157 := Aside0.mk (Q_HO157 (hon 0 by7))
                                  have hcv31 := own_string (P := Try.prog) Try.underlying87 Try.underlying5 Try.underlying9 (Kd.own_of_R HO157.out)
                                  refine value_ (w1 := w') (v := .string (strOfNums y155)) (by rfl) rfl ?_ ?_
                                  · go_simp
                                    (try simp only [i64_w])
                                    try rfl
                                    all_goals first | done | (have h_ := c3; simp only [ByteArray.size_append] at h_; exact h_) | (have h_ := c4; simp only [ByteArray.size_append] at h_; exact h_) | (have h_ := c6; simp only [ByteArray.size_append] at h_; exact h_) | (have h_ := c8; simp only [ByteArray.size_append] at h_; exact h_) | (have h_ := c10; simp only [ByteArray.size_append] at h_; exact h_) | (have h_ := c12; simp only [ByteArray.size_append] at h_; exact h_) | (have h_ := c14; simp only [ByteArray.size_append] at h_; exact h_) | (have h_ := c16; simp only [ByteArray.size_append] at h_; exact h_) | (have h_ := c18; simp only [ByteArray.size_append] at h_; exact h_) | (have h_ := c20; simp only [ByteArray.size_append] at h_; exact h_) | (have h_ := c22; simp only [ByteArray.size_append] at h_; exact h_) | (have h_ := c24; simp only [ByteArray.size_append] at h_; exact h_) | (have h_ := c25; simp only [ByteArray.size_append] at h_; exact h_) | (have h_ := c26; simp only [ByteArray.size_append] at h_; exact h_)
                                  refine hK.out _ _ ⟨v156, v169, (by rw [ha.out]; exact putSel_upk 1 hb_ rfl rfl rfl), Q_HB, Q_HO157, Q_HO170⟩
                                refine steps_cons ?_ ?_
                                · rintro b a w' ⟨v156, v169, ha, Q_HB, Q_HO157, Q_HO170⟩ hb_ hon hoff
                                  refine ⟨_, rfl, fun K hK => ?_⟩
                                  have e6 : a.tmps[6]? = some (.string (strOfNums y155)) := by rw [ha]; exact putSel_on (e := (1, 6, .string (strOfNums y155))) 1 rfl rfl (hon 1 by7) rfl
                                  replace ha := Aside0.mk ha
                                  have HB := Aside0.mk Q_HB
                                  have HO157 := Aside0.mk (Q_HO157 (hon 0 by7))
                                  refine value_ (w1 := w') (v := .string ((⟨#[127, 69, 76, 70, 2, 1, 1, 0]⟩ : ByteArray) ++ (strOfNums y155))) (by rfl) rfl ?_ ?_
                                  · go_simp
                                    (try simp only [i64_w])
                                    try rfl
                                    all_goals first | done | (have h_ := c3; simp only [ByteArray.size_append] at h_; exact h_) | (have h_ := c4; simp only [ByteArray.size_append] at h_; exact h_) | (have h_ := c6; simp only [ByteArray.size_append] at h_; exact h_) | (have h_ := c8; simp only [ByteArray.size_append] at h_; exact h_) | (have h_ := c10; simp only [ByteArray.size_append] at h_; exact h_) | (have h_ := c12; simp only [ByteArray.size_append] at h_; exact h_) | (have h_ := c14; simp only [ByteArray.size_append] at h_; exact h_) | (have h_ := c16; simp only [ByteArray.size_append] at h_; exact h_) | (have h_ := c18; simp only [ByteArray.size_append] at h_; exact h_) | (have h_ := c20; simp only [ByteArray.size_append] at h_; exact h_) | (have h_ := c22; simp only [ByteArray.size_append] at h_; exact h_) | (have h_ := c24; simp only [ByteArray.size_append] at h_; exact h_) | (have h_ := c25; simp only [ByteArray.size_append] at h_; exact h_) | (have h_ := c26; simp only [ByteArray.size_append] at h_; exact h_)
                                  refine hK.out _ _ ⟨v156, v169, (by rw [ha.out]; exact putSel_upk 2 hb_ rfl rfl rfl), Q_HB, Q_HO157, Q_HO170⟩
                                refine steps_cons ?_ ?_
                                · rintro b a w' ⟨v156, v169, ha, Q_HB, Q_HO157, Q_HO170⟩ hb_ hon hoff
                                  refine ⟨_, rfl, fun K hK => ?_⟩
                                  replace ha := Aside0.mk ha
                                  have HB := Aside0.mk Q_HB
                                  refine goes_ Try.func152 by7 rfl #[.int .i64 2, .int .i64 2] (by rfl) rfl rfl by15 ?_
                                  with_reducible refine (spec_l01Little.calls k 2 2 t158 _ A5.out).mono ?_
                                  rintro e w28 ⟨rfl, hb⟩
                                  refine ⟨_, rfl, ?_⟩
                                  have n0_ := Aside0.mk (below_step by1 hb)
                                  have z_HO157 := fun (h0_ : b 0 = true) => (show Kd.R (Kd.int .u8) 5 w28 w.heap.size (fun _ => True) v156 y155 from by first | exact (Kd.R_below by12 hb) | exact Kd.R_mono (Kd.R_below by12 hb) (fun _ h_ => by first | trivial | exact h_ | exact h_.1))
                                  have z_HO170 := fun (h0_ : b 25 = true) => (show Kd.R (Kd.int .u8) 5 w28 w.heap.size (fun _ => True) v169 y168 from by first | exact (Kd.R_below by11 hb) | exact Kd.R_mono (Kd.R_below by11 hb) (fun _ h_ => by first | trivial | exact h_ | exact h_.1))
                                  clear HB
                                  have HB := n0_
                                  clear n0_
                                  (try clear hb)
                                  (try clear hb2)
                                  (try clear hk)
                                  (try clear hi)
                                  refine hK.out _ _ ⟨v156, v169, (by rw [ha.out]; exact putSel_upk 3 hb_ rfl rfl rfl), by1, z_HO157, z_HO170⟩
                                refine steps_cons ?_ ?_
                                · rintro b a w' ⟨v156, v169, ha, Q_HB, Q_HO157, Q_HO170⟩ hb_ hon hoff
                                  refine ⟨_, rfl, fun K hK => ?_⟩
                                  have e7 : a.tmps[7]? = some (.string ((⟨#[127, 69, 76, 70, 2, 1, 1, 0]⟩ : ByteArray) ++ (strOfNums y155))) := by rw [ha]; exact putSel_on (e := (2, 7, .string ((⟨#[127, 69, 76, 70, 2, 1, 1, 0]⟩ : ByteArray) ++ (strOfNums y155)))) 2 rfl rfl (hon 2 by7) rfl
                                  have e8 : a.tmps[8]? = some (.string t158) := by rw [ha]; exact putSel_on (e := (3, 8, .string t158)) 3 rfl rfl (hon 3 by7) rfl
                                  replace ha := Aside0.mk ha
                                  have HB := Aside0.mk Q_HB
                                  have HO157 := Aside0.mk (Q_HO157 (hon 0 by7))
                                  refine value_ (w1 := w') (v := .string (((⟨#[127, 69, 76, 70, 2, 1, 1, 0]⟩ : ByteArray) ++ (strOfNums y155)) ++ t158)) (by rfl) rfl ?_ ?_
                                  · go_simp
                                    (try simp only [i64_w])
                                    try rfl
                                    all_goals first | done | (have h_ := c3; simp only [ByteArray.size_append] at h_; exact h_) | (have h_ := c4; simp only [ByteArray.size_append] at h_; exact h_) | (have h_ := c6; simp only [ByteArray.size_append] at h_; exact h_) | (have h_ := c8; simp only [ByteArray.size_append] at h_; exact h_) | (have h_ := c10; simp only [ByteArray.size_append] at h_; exact h_) | (have h_ := c12; simp only [ByteArray.size_append] at h_; exact h_) | (have h_ := c14; simp only [ByteArray.size_append] at h_; exact h_) | (have h_ := c16; simp only [ByteArray.size_append] at h_; exact h_) | (have h_ := c18; simp only [ByteArray.size_append] at h_; exact h_) | (have h_ := c20; simp only [ByteArray.size_append] at h_; exact h_) | (have h_ := c22; simp only [ByteArray.size_append] at h_; exact h_) | (have h_ := c24; simp only [ByteArray.size_append] at h_; exact h_) | (have h_ := c25; simp only [ByteArray.size_append] at h_; exact h_) | (have h_ := c26; simp only [ByteArray.size_append] at h_; exact h_)
                                  refine hK.out _ _ ⟨v156, v169, (by rw [ha.out]; exact putSel_upk 4 hb_ rfl rfl rfl), Q_HB, Q_HO157, Q_HO170⟩
                                refine steps_cons ?_ ?_
                                · rintro b a w' ⟨v156, v169, ha, Q_HB, Q_HO157, Q_HO170⟩ hb_ hon hoff
                                  refine ⟨_, rfl, fun K hK => ?_⟩
                                  replace ha := Aside0.mk ha
                                  have HB := Aside0.mk Q_HB
                                  refine goes_ Try.func152 by7 rfl #[.int .i64 62, .int .i64 2] (by rfl) rfl rfl by15 ?_
                                  with_reducible refine (spec_l01Little.calls k 62 2 t159 _ A7.out).mono ?_
                                  rintro e w30 ⟨rfl, hb⟩
                                  refine ⟨_, rfl, ?_⟩
                                  have n0_ := Aside0.mk (below_step by1 hb)
                                  have z_HO157 := fun (h0_ : b 0 = true) => (show Kd.R (Kd.int .u8) 5 w30 w.heap.size (fun _ => True) v156 y155 from by first | exact (Kd.R_below by12 hb) | exact Kd.R_mono (Kd.R_below by12 hb) (fun _ h_ => by first | trivial | exact h_ | exact h_.1))
                                  have z_HO170 := fun (h0_ : b 25 = true) => (show Kd.R (Kd.int .u8) 5 w30 w.heap.size (fun _ => True) v169 y168 from by first | exact (Kd.R_below by11 hb) | exact Kd.R_mono (Kd.R_below by11 hb) (fun _ h_ => by first | trivial | exact h_ | exact h_.1))
                                  clear HB
                                  have HB := n0_
                                  clear n0_
                                  (try clear hb)
                                  (try clear hb2)
                                  (try clear hk)
                                  (try clear hi)
                                  refine hK.out _ _ ⟨v156, v169, (by rw [ha.out]; exact putSel_upk 5 hb_ rfl rfl rfl), by1, z_HO157, z_HO170⟩
                                refine steps_cons ?_ ?_
                                · rintro b a w' ⟨v156, v169, ha, Q_HB, Q_HO157, Q_HO170⟩ hb_ hon hoff
                                  refine ⟨_, rfl, fun K hK => ?_⟩
                                  have e9 : a.tmps[9]? = some (.string (((⟨#[127, 69, 76, 70, 2, 1, 1, 0]⟩ : ByteArray) ++ (strOfNums y155)) ++ t158)) := by rw [ha]; exact putSel_on (e := (4, 9, .string (((⟨#[127, 69, 76, 70, 2, 1, 1, 0]⟩ : ByteArray) ++ (strOfNums y155)) ++ t158))) 4 rfl rfl (hon 4 by7) rfl
                                  have e10 : a.tmps[10]? = some (.string t159) := by rw [ha]; exact putSel_on (e := (5, 10, .string t159)) 5 rfl rfl (hon 5 by7) rfl
                                  replace ha := Aside0.mk ha
                                  have HB := Aside0.mk Q_HB
                                  have HO157 := Aside0.mk (Q_HO157 (hon 0 by7))
                                  refine value_ (w1 := w') (v := .string ((((⟨#[127, 69, 76, 70, 2, 1, 1, 0]⟩ : ByteArray) ++ (strOfNums y155)) ++ t158) ++ t159)) (by rfl) rfl ?_ ?_
                                  · go_simp
                                    (try simp only [i64_w])
                                    try rfl
                                    all_goals first | done | (have h_ := c3; simp only [ByteArray.size_append] at h_; exact h_) | (have h_ := c4; simp only [ByteArray.size_append] at h_; exact h_) | (have h_ := c6; simp only [ByteArray.size_append] at h_; exact h_) | (have h_ := c8; simp only [ByteArray.size_append] at h_; exact h_) | (have h_ := c10; simp only [ByteArray.size_append] at h_; exact h_) | (have h_ := c12; simp only [ByteArray.size_append] at h_; exact h_) | (have h_ := c14; simp only [ByteArray.size_append] at h_; exact h_) | (have h_ := c16; simp only [ByteArray.size_append] at h_; exact h_) | (have h_ := c18; simp only [ByteArray.size_append] at h_; exact h_) | (have h_ := c20; simp only [ByteArray.size_append] at h_; exact h_) | (have h_ := c22; simp only [ByteArray.size_append] at h_; exact h_) | (have h_ := c24; simp only [ByteArray.size_append] at h_; exact h_) | (have h_ := c25; simp only [ByteArray.size_append] at h_; exact h_) | (have h_ := c26; simp only [ByteArray.size_append] at h_; exact h_)
                                  refine hK.out _ _ ⟨v156, v169, (by rw [ha.out]; exact putSel_upk 6 hb_ rfl rfl rfl), Q_HB, Q_HO157, Q_HO170⟩
                                refine steps_cons ?_ ?_
                                · rintro b a w' ⟨v156, v169, ha, Q_HB, Q_HO157, Q_HO170⟩ hb_ hon hoff
                                  refine ⟨_, rfl, fun K hK => ?_⟩
                                  replace ha := Aside0.mk ha
                                  have HB := Aside0.mk Q_HB
                                  refine goes_ Try.func152 by7 rfl #[.int .i64 1, .int .i64 4] (by rfl) rfl rfl by15 ?_
                                  with_reducible refine (spec_l01Little.calls k 1 4 t160 _ A9.out).mono ?_
                                  rintro e w31 ⟨rfl, hb⟩
                                  refine ⟨_, rfl, ?_⟩
                                  have n0_ := Aside0.mk (below_step by1 hb)
                                  have z_HO157 := fun (h0_ : b 0 = true) => (show Kd.R (Kd.int .u8) 5 w31 w.heap.size (fun _ => True) v156 y155 from by first | exact (Kd.R_below by12 hb) | exact Kd.R_mono (Kd.R_below by12 hb) (fun _ h_ => by first | trivial | exact h_ | exact h_.1))
                                  have z_HO170 := fun (h0_ : b 25 = true) => (show Kd.R (Kd.int .u8) 5 w31 w.heap.size (fun _ => True) v169 y168 from by first | exact (Kd.R_below by11 hb) | exact Kd.R_mono (Kd.R_below by11 hb) (fun _ h_ => by first | trivial | exact h_ | exact h_.1))
                                  clear HB
                                  have HB := n0_
                                  clear n0_
                                  (try clear hb)
                                  (try clear hb2)
                                  (try clear hk)
                                  (try clear hi)
                                  refine hK.out _ _ ⟨v156, v169, (by rw [ha.out]; exact putSel_upk 7 hb_ rfl rfl rfl), by1, z_HO157, z_HO170⟩
                                refine steps_cons ?_ ?_
                                · rintro b a w' ⟨v156, v169, ha, Q_HB, Q_HO157, Q_HO170⟩ hb_ hon hoff
                                  refine ⟨_, rfl, fun K hK => ?_⟩
                                  have e11 : a.tmps[11]? = some (.string ((((⟨#[127, 69, 76, 70, 2, 1, 1, 0]⟩ : ByteArray) ++ (strOfNums y155)) ++ t158) ++ t159)) := by rw [ha]; exact putSel_on (e := (6, 11, .string ((((⟨#[127, 69, 76, 70, 2, 1, 1, 0]⟩ : ByteArray) ++ (strOfNums y155)) ++ t158) ++ t159))) 6 rfl rfl (hon 6 by7) rfl
                                  have e12 : a.tmps[12]? = some (.string t160) := by rw [ha]; exact putSel_on (e := (7, 12, .string t160)) 7 rfl rfl (hon 7 by7) rfl
                                  replace ha := Aside0.mk ha
                                  have HB := Aside0.mk Q_HB
                                  have HO157 := Aside0.mk (Q_HO157 (hon 0 by7))
                                  refine value_ (w1 := w') (v := .string (((((⟨#[127, 69, 76, 70, 2, 1, 1, 0]⟩ : ByteArray) ++ (strOfNums y155)) ++ t158) ++ t159) ++ t160)) (by rfl) rfl ?_ ?_
                                  · go_simp
                                    (try simp only [i64_w])
                                    try rfl
                                    all_goals first | done | (have h_ := c3; simp only [ByteArray.size_append] at h_; exact h_) | (have h_ := c4; simp only [ByteArray.size_append] at h_; exact h_) | (have h_ := c6; simp only [ByteArray.size_append] at h_; exact h_) | (have h_ := c8; simp only [ByteArray.size_append] at h_; exact h_) | (have h_ := c10; simp only [ByteArray.size_append] at h_; exact h_) | (have h_ := c12; simp only [ByteArray.size_append] at h_; exact h_) | (have h_ := c14; simp only [ByteArray.size_append] at h_; exact h_) | (have h_ := c16; simp only [ByteArray.size_append] at h_; exact h_) | (have h_ := c18; simp only [ByteArray.size_append] at h_; exact h_) | (have h_ := c20; simp only [ByteArray.size_append] at h_; exact h_) | (have h_ := c22; simp only [ByteArray.size_append] at h_; exact h_) | (have h_ := c24; simp only [ByteArray.size_append] at h_; exact h_) | (have h_ := c25; simp only [ByteArray.size_append] at h_; exact h_) | (have h_ := c26; simp only [ByteArray.size_append] at h_; exact h_)
                                  refine hK.out _ _ ⟨v156, v169, (by rw [ha.out]; exact putSel_upk 8 hb_ rfl rfl rfl), Q_HB, Q_HO157, Q_HO170⟩
                                refine steps_cons ?_ ?_
                                · rintro b a w' ⟨v156, v169, ha, Q_HB, Q_HO157, Q_HO170⟩ hb_ hon hoff
                                  refine ⟨_, rfl, fun K hK => ?_⟩
                                  have e14 : a.tmps[14]? = some (.int .i64 a0) := by rw [ha]; exact (putSel_off rfl).trans rfl
                                  replace ha := Aside0.mk ha
                                  have HB := Aside0.mk Q_HB
                                  refine goes_ Try.func152 by7 rfl #[.int .i64 a0, .int .i64 8] (by rfl) rfl rfl (by first | (simp only [List.map_toArray, List.map_cons, List.map_nil, Act.eval, Array.getD_eq_getD_getElem?, Option.getD_some, e14]; done) | (simp only [List.map_toArray, List.map_cons, List.map_nil, Act.eval, Array.getD_eq_getD_getElem?, Option.getD_some, e14]; rfl)) ?_
                                  with_reducible refine (spec_l01Little.calls k a0 8 t161 _ A11.out).mono ?_
                                  rintro e w32 ⟨rfl, hb⟩
                                  refine ⟨_, rfl, ?_⟩
                                  have n0_ := Aside0.mk (below_step by1 hb)
                                  have z_HO157 := fun (h0_ : b 0 = true) => (show Kd.R (Kd.int .u8) 5 w32 w.heap.size (fun _ => True) v156 y155 from by first | exact (Kd.R_below by12 hb) | exact Kd.R_mono (Kd.R_below by12 hb) (fun _ h_ => by first | trivial | exact h_ | exact h_.1))
                                  have z_HO170 := fun (h0_ : b 25 = true) => (show Kd.R (Kd.int .u8) 5 w32 w.heap.size (fun _ => True) v169 y168 from by first | exact (Kd.R_below by11 hb) | exact Kd.R_mono (Kd.R_below by11 hb) (fun _ h_ => by first | trivial | exact h_ | exact h_.1))
                                  clear HB
                                  have HB := n0_
                                  clear n0_
                                  (try clear hb)
                                  (try clear hb2)
                                  (try clear hk)
                                  (try clear hi)
                                  refine hK.out _ _ ⟨v156, v169, (by rw [ha.out]; exact putSel_upk 9 hb_ rfl rfl rfl), by1, z_HO157, z_HO170⟩
                                refine steps_cons ?_ ?_
                                · rintro b a w' ⟨v156, v169, ha, Q_HB, Q_HO157, Q_HO170⟩ hb_ hon hoff
                                  refine ⟨_, rfl, fun K hK => ?_⟩
                                  have e13 : a.tmps[13]? = some (.string (((((⟨#[127, 69, 76, 70, 2, 1, 1, 0]⟩ : ByteArray) ++ (strOfNums y155)) ++ t158) ++ t159) ++ t160)) := by rw [ha]; exact putSel_on (e := (8, 13, .string (((((⟨#[127, 69, 76, 70, 2, 1, 1, 0]⟩ : ByteArray) ++ (strOfNums y155)) ++ t158) ++ t159) ++ t160))) 8 rfl rfl (hon 8 by7) rfl
                                  have e15 : a.tmps[15]? = some (.string t161) := by rw [ha]; exact putSel_on (e := (10, 15, .string t161)) 9 rfl rfl (hon 10 by7) rfl
                                  replace ha := Aside0.mk ha
                                  have HB := Aside0.mk Q_HB
                                  have HO157 := Aside0.mk (Q_HO157 (hon 0 by7))
                                  refine value_ (w1 := w') (v := .string ((((((⟨#[127, 69, 76, 70, 2, 1, 1, 0]⟩ : ByteArray) ++ (strOfNums y155)) ++ t158) ++ t159) ++ t160) ++ t161)) (by rfl) rfl ?_ ?_
                                  · go_simp
                                    (try simp only [i64_w])
                                    try rfl
                                    all_goals first | done | (have h_ := c3; simp only [ByteArray.size_append] at h_; exact h_) | (have h_ := c4; simp only [ByteArray.size_append] at h_; exact h_) | (have h_ := c6; simp only [ByteArray.size_append] at h_; exact h_) | (have h_ := c8; simp only [ByteArray.size_append] at h_; exact h_) | (have h_ := c10; simp only [ByteArray.size_append] at h_; exact h_) | (have h_ := c12; simp only [ByteArray.size_append] at h_; exact h_) | (have h_ := c14; simp only [ByteArray.size_append] at h_; exact h_) | (have h_ := c16; simp only [ByteArray.size_append] at h_; exact h_) | (have h_ := c18; simp only [ByteArray.size_append] at h_; exact h_) | (have h_ := c20; simp only [ByteArray.size_append] at h_; exact h_) | (have h_ := c22; simp only [ByteArray.size_append] at h_; exact h_) | (have h_ := c24; simp only [ByteArray.size_append] at h_; exact h_) | (have h_ := c25; simp only [ByteArray.size_append] at h_; exact h_) | (have h_ := c26; simp only [ByteArray.size_append] at h_; exact h_)
                                  refine hK.out _ _ ⟨v156, v169, (by rw [ha.out]; exact putSel_upk 10 hb_ rfl rfl rfl), Q_HB, Q_HO157, Q_HO170⟩
                                refine steps_cons ?_ ?_
                                · rintro b a w' ⟨v156, v169, ha, Q_HB, Q_HO157, Q_HO170⟩ hb_ hon hoff
                                  refine ⟨_, rfl, fun K hK => ?_⟩
                                  replace ha := Aside0.mk ha
                                  have HB := Aside0.mk Q_HB
                                  refine goes_ Try.func152 by7 rfl #[.int .i64 64, .int .i64 8] (by rfl) rfl rfl by15 ?_
                                  with_reducible refine (spec_l01Little.calls k 64 8 t162 _ A13.out).mono ?_
                                  rintro e w33 ⟨rfl, hb⟩
                                  refine ⟨_, rfl, ?_⟩
                                  have n0_ := Aside0.mk (below_step by1 hb)
                                  have z_HO157 := fun (h0_ : b 0 = true) => (show Kd.R (Kd.int .u8) 5 w33 w.heap.size (fun _ => True) v156 y155 from by first | exact (Kd.R_below by12 hb) | exact Kd.R_mono (Kd.R_below by12 hb) (fun _ h_ => by first | trivial | exact h_ | exact h_.1))
                                  have z_HO170 := fun (h0_ : b 25 = true) => (show Kd.R (Kd.int .u8) 5 w33 w.heap.size (fun _ => True) v169 y168 from by first | exact (Kd.R_below by11 hb) | exact Kd.R_mono (Kd.R_below by11 hb) (fun _ h_ => by first | trivial | exact h_ | exact h_.1))
                                  clear HB
                                  have HB := n0_
                                  clear n0_
                                  (try clear hb)
                                  (try clear hb2)
                                  (try clear hk)
                                  (try clear hi)
                                  refine hK.out _ _ ⟨v156, v169, (by rw [ha.out]; exact putSel_upk 11 hb_ rfl rfl rfl), by1, z_HO157, z_HO170⟩
                                refine steps_cons ?_ ?_
                                · rintro b a w' ⟨v156, v169, ha, Q_HB, Q_HO157, Q_HO170⟩ hb_ hon hoff
                                  refine ⟨_, rfl, fun K hK => ?_⟩
                                  have e16 : a.tmps[16]? = some (.string ((((((⟨#[127, 69, 76, 70, 2, 1, 1, 0]⟩ : ByteArray) ++ (strOfNums y155)) ++ t158) ++ t159) ++ t160) ++ t161)) := by rw [ha]; exact putSel_on (e := (11, 16, .string ((((((⟨#[127, 69, 76, 70, 2, 1, 1, 0]⟩ : ByteArray) ++ (strOfNums y155)) ++ t158) ++ t159) ++ t160) ++ t161))) 10 rfl rfl (hon 11 by7) rfl
                                  have e17 : a.tmps[17]? = some (.string t162) := by rw [ha]; exact putSel_on (e := (12, 17, .string t162)) 11 rfl rfl (hon 12 by7) rfl
                                  replace ha := Aside0.mk ha
                                  have HB := Aside0.mk Q_HB
                                  have HO157 := Aside0.mk (Q_HO157 (hon 0 by7))
                                  refine value_ (w1 := w') (v := .string (((((((⟨#[127, 69, 76, 70, 2, 1, 1, 0]⟩ : ByteArray) ++ (strOfNums y155)) ++ t158) ++ t159) ++ t160) ++ t161) ++ t162)) (by rfl) rfl ?_ ?_
                                  · go_simp
                                    (try simp only [i64_w])
                                    try rfl
                                    all_goals first | done | (have h_ := c3; simp only [ByteArray.size_append] at h_; exact h_) | (have h_ := c4; simp only [ByteArray.size_append] at h_; exact h_) | (have h_ := c6; simp only [ByteArray.size_append] at h_; exact h_) | (have h_ := c8; simp only [ByteArray.size_append] at h_; exact h_) | (have h_ := c10; simp only [ByteArray.size_append] at h_; exact h_) | (have h_ := c12; simp only [ByteArray.size_append] at h_; exact h_) | (have h_ := c14; simp only [ByteArray.size_append] at h_; exact h_) | (have h_ := c16; simp only [ByteArray.size_append] at h_; exact h_) | (have h_ := c18; simp only [ByteArray.size_append] at h_; exact h_) | (have h_ := c20; simp only [ByteArray.size_append] at h_; exact h_) | (have h_ := c22; simp only [ByteArray.size_append] at h_; exact h_) | (have h_ := c24; simp only [ByteArray.size_append] at h_; exact h_) | (have h_ := c25; simp only [ByteArray.size_append] at h_; exact h_) | (have h_ := c26; simp only [ByteArray.size_append] at h_; exact h_)
                                  refine hK.out _ _ ⟨v156, v169, (by rw [ha.out]; exact putSel_upk 12 hb_ rfl rfl rfl), Q_HB, Q_HO157, Q_HO170⟩
                                refine steps_cons ?_ ?_
                                · rintro b a w' ⟨v156, v169, ha, Q_HB, Q_HO157, Q_HO170⟩ hb_ hon hoff
                                  refine ⟨_, rfl, fun K hK => ?_⟩
                                  replace ha := Aside0.mk ha
                                  have HB := Aside0.mk Q_HB
                                  refine goes_ Try.func152 by7 rfl #[.int .i64 0, .int .i64 8] (by rfl) rfl rfl by15 ?_
                                  with_reducible refine (spec_l01Little.calls k 0 8 t163 _ A15.out).mono ?_
                                  rintro e w34 ⟨rfl, hb⟩
                                  refine ⟨_, rfl, ?_⟩
                                  have n0_ := Aside0.mk (below_step by1 hb)
                                  have z_HO157 := fun (h0_ : b 0 = true) => (show Kd.R (Kd.int .u8) 5 w34 w.heap.size (fun _ => True) v156 y155 from by first | exact (Kd.R_below by12 hb) | exact Kd.R_mono (Kd.R_below by12 hb) (fun _ h_ => by first | trivial | exact h_ | exact h_.1))
                                  have z_HO170 := fun (h0_ : b 25 = true) => (show Kd.R (Kd.int .u8) 5 w34 w.heap.size (fun _ => True) v169 y168 from by first | exact (Kd.R_below by11 hb) | exact Kd.R_mono (Kd.R_below by11 hb) (fun _ h_ => by first | trivial | exact h_ | exact h_.1))
                                  clear HB
                                  have HB := n0_
                                  clear n0_
                                  (try clear hb)
                                  (try clear hb2)
                                  (try clear hk)
                                  (try clear hi)
                                  refine hK.out _ _ ⟨v156, v169, (by rw [ha.out]; exact putSel_upk 13 hb_ rfl rfl rfl), by1, z_HO157, z_HO170⟩
                                refine steps_cons ?_ ?_
                                · rintro b a w' ⟨v156, v169, ha, Q_HB, Q_HO157, Q_HO170⟩ hb_ hon hoff
                                  refine ⟨_, rfl, fun K hK => ?_⟩
                                  have e18 : a.tmps[18]? = some (.string (((((((⟨#[127, 69, 76, 70, 2, 1, 1, 0]⟩ : ByteArray) ++ (strOfNums y155)) ++ t158) ++ t159) ++ t160) ++ t161) ++ t162)) := by rw [ha]; exact putSel_on (e := (13, 18, .string (((((((⟨#[127, 69, 76, 70, 2, 1, 1, 0]⟩ : ByteArray) ++ (strOfNums y155)) ++ t158) ++ t159) ++ t160) ++ t161) ++ t162))) 12 rfl rfl (hon 13 by7) rfl
                                  have e19 : a.tmps[19]? = some (.string t163) := by rw [ha]; exact putSel_on (e := (14, 19, .string t163)) 13 rfl rfl (hon 14 by7) rfl
                                  replace ha := Aside0.mk ha
                                  have HB := Aside0.mk Q_HB
                                  have HO157 := Aside0.mk (Q_HO157 (hon 0 by7))
                                  refine value_ (w1 := w') (v := .string ((((((((⟨#[127, 69, 76, 70, 2, 1, 1, 0]⟩ : ByteArray) ++ (strOfNums y155)) ++ t158) ++ t159) ++ t160) ++ t161) ++ t162) ++ t163)) (by rfl) rfl ?_ ?_
                                  · go_simp
                                    (try simp only [i64_w])
                                    try rfl
                                    all_goals first | done | (have h_ := c3; simp only [ByteArray.size_append] at h_; exact h_) | (have h_ := c4; simp only [ByteArray.size_append] at h_; exact h_) | (have h_ := c6; simp only [ByteArray.size_append] at h_; exact h_) | (have h_ := c8; simp only [ByteArray.size_append] at h_; exact h_) | (have h_ := c10; simp only [ByteArray.size_append] at h_; exact h_) | (have h_ := c12; simp only [ByteArray.size_append] at h_; exact h_) | (have h_ := c14; simp only [ByteArray.size_append] at h_; exact h_) | (have h_ := c16; simp only [ByteArray.size_append] at h_; exact h_) | (have h_ := c18; simp only [ByteArray.size_append] at h_; exact h_) | (have h_ := c20; simp only [ByteArray.size_append] at h_; exact h_) | (have h_ := c22; simp only [ByteArray.size_append] at h_; exact h_) | (have h_ := c24; simp only [ByteArray.size_append] at h_; exact h_) | (have h_ := c25; simp only [ByteArray.size_append] at h_; exact h_) | (have h_ := c26; simp only [ByteArray.size_append] at h_; exact h_)
                                  refine hK.out _ _ ⟨v156, v169, (by rw [ha.out]; exact putSel_upk 14 hb_ rfl rfl rfl), Q_HB, Q_HO157, Q_HO170⟩
                                refine steps_cons ?_ ?_
                                · rintro b a w' ⟨v156, v169, ha, Q_HB, Q_HO157, Q_HO170⟩ hb_ hon hoff
                                  refine ⟨_, rfl, fun K hK => ?_⟩
                                  replace ha := Aside0.mk ha
                                  have HB := Aside0.mk Q_HB
                                  refine goes_ Try.func152 by7 rfl #[.int .i64 0, .int .i64 4] (by rfl) rfl rfl by15 ?_
                                  with_reducible refine (spec_l01Little.calls k 0 4 t164 _ A17.out).mono ?_
                                  rintro e w35 ⟨rfl, hb⟩
                                  refine ⟨_, rfl, ?_⟩
                                  have n0_ := Aside0.mk (below_step by1 hb)
                                  have z_HO157 := fun (h0_ : b 0 = true) => (show Kd.R (Kd.int .u8) 5 w35 w.heap.size (fun _ => True) v156 y155 from by first | exact (Kd.R_below by12 hb) | exact Kd.R_mono (Kd.R_below by12 hb) (fun _ h_ => by first | trivial | exact h_ | exact h_.1))
                                  have z_HO170 := fun (h0_ : b 25 = true) => (show Kd.R (Kd.int .u8) 5 w35 w.heap.size (fun _ => True) v169 y168 from by first | exact (Kd.R_below by11 hb) | exact Kd.R_mono (Kd.R_below by11 hb) (fun _ h_ => by first | trivial | exact h_ | exact h_.1))
                                  clear HB
                                  have HB := n0_
                                  clear n0_
                                  (try clear hb)
                                  (try clear hb2)
                                  (try clear hk)
                                  (try clear hi)
                                  refine hK.out _ _ ⟨v156, v169, (by rw [ha.out]; exact putSel_upk 15 hb_ rfl rfl rfl), by1, z_HO157, z_HO170⟩
                                refine steps_cons ?_ ?_
                                · rintro b a w' ⟨v156, v169, ha, Q_HB, Q_HO157, Q_HO170⟩ hb_ hon hoff
                                  refine ⟨_, rfl, fun K hK => ?_⟩
                                  have e20 : a.tmps[20]? = some (.string ((((((((⟨#[127, 69, 76, 70, 2, 1, 1, 0]⟩ : ByteArray) ++ (strOfNums y155)) ++ t158) ++ t159) ++ t160) ++ t161) ++ t162) ++ t163)) := by rw [ha]; exact putSel_on (e := (15, 20, .string ((((((((⟨#[127, 69, 76, 70, 2, 1, 1, 0]⟩ : ByteArray) ++ (strOfNums y155)) ++ t158) ++ t159) ++ t160) ++ t161) ++ t162) ++ t163))) 14 rfl rfl (hon 15 by7) rfl
                                  have e21 : a.tmps[21]? = some (.string t164) := by rw [ha]; exact putSel_on (e := (16, 21, .string t164)) 15 rfl rfl (hon 16 by7) rfl
                                  replace ha := Aside0.mk ha
                                  have HB := Aside0.mk Q_HB
                                  have HO157 := Aside0.mk (Q_HO157 (hon 0 by7))
                                  refine value_ (w1 := w') (v := .string (((((((((⟨#[127, 69, 76, 70, 2, 1, 1, 0]⟩ : ByteArray) ++ (strOfNums y155)) ++ t158) ++ t159) ++ t160) ++ t161) ++ t162) ++ t163) ++ t164)) (by rfl) rfl ?_ ?_
                                  · go_simp
                                    (try simp only [i64_w])
                                    try rfl
                                    all_goals first | done | (have h_ := c3; simp only [ByteArray.size_append] at h_; exact h_) | (have h_ := c4; simp only [ByteArray.size_append] at h_; exact h_) | (have h_ := c6; simp only [ByteArray.size_append] at h_; exact h_) | (have h_ := c8; simp only [ByteArray.size_append] at h_; exact h_) | (have h_ := c10; simp only [ByteArray.size_append] at h_; exact h_) | (have h_ := c12; simp only [ByteArray.size_append] at h_; exact h_) | (have h_ := c14; simp only [ByteArray.size_append] at h_; exact h_) | (have h_ := c16; simp only [ByteArray.size_append] at h_; exact h_) | (have h_ := c18; simp only [ByteArray.size_append] at h_; exact h_) | (have h_ := c20; simp only [ByteArray.size_append] at h_; exact h_) | (have h_ := c22; simp only [ByteArray.size_append] at h_; exact h_) | (have h_ := c24; simp only [ByteArray.size_append] at h_; exact h_) | (have h_ := c25; simp only [ByteArray.size_append] at h_; exact h_) | (have h_ := c26; simp only [ByteArray.size_append] at h_; exact h_)
                                  refine hK.out _ _ ⟨v156, v169, (by rw [ha.out]; exact putSel_upk 16 hb_ rfl rfl rfl), Q_HB, Q_HO157, Q_HO170⟩
                                refine steps_cons ?_ ?_
                                · rintro b a w' ⟨v156, v169, ha, Q_HB, Q_HO157, Q_HO170⟩ hb_ hon hoff
                                  refine ⟨_, rfl, fun K hK => ?_⟩
                                  replace ha := Aside0.mk ha
                                  have HB := Aside0.mk Q_HB
                                  refine goes_ Try.func152 by7 rfl #[.int .i64 64, .int .i64 2] (by rfl) rfl rfl by15 ?_
                                  with_reducible refine (spec_l01Little.calls k 64 2 t165 _ A19.out).mono ?_
                                  rintro e w36 ⟨rfl, hb⟩
                                  refine ⟨_, rfl, ?_⟩
                                  have n0_ := Aside0.mk (below_step by1 hb)
                                  have z_HO157 := fun (h0_ : b 0 = true) => (show Kd.R (Kd.int .u8) 5 w36 w.heap.size (fun _ => True) v156 y155 from by first | exact (Kd.R_below by12 hb) | exact Kd.R_mono (Kd.R_below by12 hb) (fun _ h_ => by first | trivial | exact h_ | exact h_.1))
                                  have z_HO170 := fun (h0_ : b 25 = true) => (show Kd.R (Kd.int .u8) 5 w36 w.heap.size (fun _ => True) v169 y168 from by first | exact (Kd.R_below by11 hb) | exact Kd.R_mono (Kd.R_below by11 hb) (fun _ h_ => by first | trivial | exact h_ | exact h_.1))
                                  clear HB
                                  have HB := n0_
                                  clear n0_
                                  (try clear hb)
                                  (try clear hb2)
                                  (try clear hk)
                                  (try clear hi)
                                  refine hK.out _ _ ⟨v156, v169, (by rw [ha.out]; exact putSel_upk 17 hb_ rfl rfl rfl), by1, z_HO157, z_HO170⟩
                                refine steps_cons ?_ ?_
                                · rintro b a w' ⟨v156, v169, ha, Q_HB, Q_HO157, Q_HO170⟩ hb_ hon hoff
                                  refine ⟨_, rfl, fun K hK => ?_⟩
                                  have e22 : a.tmps[22]? = some (.string (((((((((⟨#[127, 69, 76, 70, 2, 1, 1, 0]⟩ : ByteArray) ++ (strOfNums y155)) ++ t158) ++ t159) ++ t160) ++ t161) ++ t162) ++ t163) ++ t164)) := by rw [ha]; exact putSel_on (e := (17, 22, .string (((((((((⟨#[127, 69, 76, 70, 2, 1, 1, 0]⟩ : ByteArray) ++ (strOfNums y155)) ++ t158) ++ t159) ++ t160) ++ t161) ++ t162) ++ t163) ++ t164))) 16 rfl rfl (hon 17 by7) rfl
                                  have e23 : a.tmps[23]? = some (.string t165) := by rw [ha]; exact putSel_on (e := (18, 23, .string t165)) 17 rfl rfl (hon 18 by7) rfl
                                  replace ha := Aside0.mk ha
                                  have HB := Aside0.mk Q_HB
                                  have HO157 := Aside0.mk (Q_HO157 (hon 0 by7))
                                  refine value_ (w1 := w') (v := .string ((((((((((⟨#[127, 69, 76, 70, 2, 1, 1, 0]⟩ : ByteArray) ++ (strOfNums y155)) ++ t158) ++ t159) ++ t160) ++ t161) ++ t162) ++ t163) ++ t164) ++ t165)) (by rfl) rfl ?_ ?_
                                  · go_simp
                                    (try simp only [i64_w])
                                    try rfl
                                    all_goals first | done | (have h_ := c3; simp only [ByteArray.size_append] at h_; exact h_) | (have h_ := c4; simp only [ByteArray.size_append] at h_; exact h_) | (have h_ := c6; simp only [ByteArray.size_append] at h_; exact h_) | (have h_ := c8; simp only [ByteArray.size_append] at h_; exact h_) | (have h_ := c10; simp only [ByteArray.size_append] at h_; exact h_) | (have h_ := c12; simp only [ByteArray.size_append] at h_; exact h_) | (have h_ := c14; simp only [ByteArray.size_append] at h_; exact h_) | (have h_ := c16; simp only [ByteArray.size_append] at h_; exact h_) | (have h_ := c18; simp only [ByteArray.size_append] at h_; exact h_) | (have h_ := c20; simp only [ByteArray.size_append] at h_; exact h_) | (have h_ := c22; simp only [ByteArray.size_append] at h_; exact h_) | (have h_ := c24; simp only [ByteArray.size_append] at h_; exact h_) | (have h_ := c25; simp only [ByteArray.size_append] at h_; exact h_) | (have h_ := c26; simp only [ByteArray.size_append] at h_; exact h_)
                                  refine hK.out _ _ ⟨v156, v169, (by rw [ha.out]; exact putSel_upk 18 hb_ rfl rfl rfl), Q_HB, Q_HO157, Q_HO170⟩
                                refine steps_cons ?_ ?_
                                · rintro b a w' ⟨v156, v169, ha, Q_HB, Q_HO157, Q_HO170⟩ hb_ hon hoff
                                  refine ⟨_, rfl, fun K hK => ?_⟩
                                  replace ha := Aside0.mk ha
                                  have HB := Aside0.mk Q_HB
                                  refine goes_ Try.func152 by7 rfl #[.int .i64 56, .int .i64 2] (by rfl) rfl rfl by15 ?_
                                  with_reducible refine (spec_l01Little.calls k 56 2 t166 _ A21.out).mono ?_
                                  rintro e w37 ⟨rfl, hb⟩
                                  refine ⟨_, rfl, ?_⟩
                                  have n0_ := Aside0.mk (below_step by1 hb)
                                  have z_HO157 := fun (h0_ : b 0 = true) => (show Kd.R (Kd.int .u8) 5 w37 w.heap.size (fun _ => True) v156 y155 from by first | exact (Kd.R_below by12 hb) | exact Kd.R_mono (Kd.R_below by12 hb) (fun _ h_ => by first | trivial | exact h_ | exact h_.1))
                                  have z_HO170 := fun (h0_ : b 25 = true) => (show Kd.R (Kd.int .u8) 5 w37 w.heap.size (fun _ => True) v169 y168 from by first | exact (Kd.R_below by11 hb) | exact Kd.R_mono (Kd.R_below by11 hb) (fun _ h_ => by first | trivial | exact h_ | exact h_.1))
                                  clear HB
                                  have HB := n0_
                                  clear n0_
                                  (try clear hb)
                                  (try clear hb2)
                                  (try clear hk)
                                  (try clear hi)
                                  refine hK.out _ _ ⟨v156, v169, (by rw [ha.out]; exact putSel_upk 19 hb_ rfl rfl rfl), by1, z_HO157, z_HO170⟩
                                refine steps_cons ?_ ?_
                                · rintro b a w' ⟨v156, v169, ha, Q_HB, Q_HO157, Q_HO170⟩ hb_ hon hoff
                                  refine ⟨_, rfl, fun K hK => ?_⟩
                                  have e24 : a.tmps[24]? = some (.string ((((((((((⟨#[127, 69, 76, 70, 2, 1, 1, 0]⟩ : ByteArray) ++ (strOfNums y155)) ++ t158) ++ t159) ++ t160) ++ t161) ++ t162) ++ t163) ++ t164) ++ t165)) := by rw [ha]; exact putSel_on (e := (19, 24, .string ((((((((((⟨#[127, 69, 76, 70, 2, 1, 1, 0]⟩ : ByteArray) ++ (strOfNums y155)) ++ t158) ++ t159) ++ t160) ++ t161) ++ t162) ++ t163) ++ t164) ++ t165))) 18 rfl rfl (hon 19 by7) rfl
                                  have e25 : a.tmps[25]? = some (.string t166) := by rw [ha]; exact putSel_on (e := (20, 25, .string t166)) 19 rfl rfl (hon 20 by7) rfl
                                  replace ha := Aside0.mk ha
                                  have HB := Aside0.mk Q_HB
                                  have HO157 := Aside0.mk (Q_HO157 (hon 0 by7))
                                  refine value_ (w1 := w') (v := .string (((((((((((⟨#[127, 69, 76, 70, 2, 1, 1, 0]⟩ : ByteArray) ++ (strOfNums y155)) ++ t158) ++ t159) ++ t160) ++ t161) ++ t162) ++ t163) ++ t164) ++ t165) ++ t166)) (by rfl) rfl ?_ ?_
                                  · go_simp
                                    (try simp only [i64_w])
                                    try rfl
                                    all_goals first | done | (have h_ := c3; simp only [ByteArray.size_append] at h_; exact h_) | (have h_ := c4; simp only [ByteArray.size_append] at h_; exact h_) | (have h_ := c6; simp only [ByteArray.size_append] at h_; exact h_) | (have h_ := c8; simp only [ByteArray.size_append] at h_; exact h_) | (have h_ := c10; simp only [ByteArray.size_append] at h_; exact h_) | (have h_ := c12; simp only [ByteArray.size_append] at h_; exact h_) | (have h_ := c14; simp only [ByteArray.size_append] at h_; exact h_) | (have h_ := c16; simp only [ByteArray.size_append] at h_; exact h_) | (have h_ := c18; simp only [ByteArray.size_append] at h_; exact h_) | (have h_ := c20; simp only [ByteArray.size_append] at h_; exact h_) | (have h_ := c22; simp only [ByteArray.size_append] at h_; exact h_) | (have h_ := c24; simp only [ByteArray.size_append] at h_; exact h_) | (have h_ := c25; simp only [ByteArray.size_append] at h_; exact h_) | (have h_ := c26; simp only [ByteArray.size_append] at h_; exact h_)
                                  refine hK.out _ _ ⟨v156, v169, (by rw [ha.out]; exact putSel_upk 20 hb_ rfl rfl rfl), Q_HB, Q_HO157, Q_HO170⟩
                                refine steps_cons ?_ ?_
                                · rintro b a w' ⟨v156, v169, ha, Q_HB, Q_HO157, Q_HO170⟩ hb_ hon hoff
                                  refine ⟨_, rfl, fun K hK => ?_⟩
                                  have e27 : a.tmps[27]? = some (.int .i64 a1) := by rw [ha]; exact (putSel_off rfl).trans rfl
                                  replace ha := Aside0.mk ha
                                  have HB := Aside0.mk Q_HB
                                  refine goes_ Try.func152 by7 rfl #[.int .i64 a1, .int .i64 2] (by rfl) rfl rfl (by first | (simp only [List.map_toArray, List.map_cons, List.map_nil, Act.eval, Array.getD_eq_getD_getElem?, Option.getD_some, e27]; done) | (simp only [List.map_toArray, List.map_cons, List.map_nil, Act.eval, Array.getD_eq_getD_getElem?, Option.getD_some, e27]; rfl)) ?_
                                  with_reducible refine (spec_l01Little.calls k a1 2 t167 _ A23.out).mono ?_
                                  rintro e w38 ⟨rfl, hb⟩
                                  refine ⟨_, rfl, ?_⟩
                                  have n0_ := Aside0.mk (below_step by1 hb)
                                  have z_HO157 := fun (h0_ : b 0 = true) => (show Kd.R (Kd.int .u8) 5 w38 w.heap.size (fun _ => True) v156 y155 from by first | exact (Kd.R_below by12 hb) | exact Kd.R_mono (Kd.R_below by12 hb) (fun _ h_ => by first | trivial | exact h_ | exact h_.1))
                                  have z_HO170 := fun (h0_ : b 25 = true) => (show Kd.R (Kd.int .u8) 5 w38 w.heap.size (fun _ => True) v169 y168 from by first | exact (Kd.R_below by11 hb) | exact Kd.R_mono (Kd.R_below by11 hb) (fun _ h_ => by first | trivial | exact h_ | exact h_.1))
                                  clear HB
                                  have HB := n0_
                                  clear n0_
                                  (try clear hb)
                                  (try clear hb2)
                                  (try clear hk)
                                  (try clear hi)
                                  refine hK.out _ _ ⟨v156, v169, (by rw [ha.out]; exact putSel_upk 21 hb_ rfl rfl rfl), by1, z_HO157, z_HO170⟩
                                refine steps_cons ?_ ?_
                                · rintro b a w' ⟨v156, v169, ha, Q_HB, Q_HO157, Q_HO170⟩ hb_ hon hoff
                                  refine ⟨_, rfl, fun K hK => ?_⟩
                                  have e26 : a.tmps[26]? = some (.string (((((((((((⟨#[127, 69, 76, 70, 2, 1, 1, 0]⟩ : ByteArray) ++ (strOfNums y155)) ++ t158) ++ t159) ++ t160) ++ t161) ++ t162) ++ t163) ++ t164) ++ t165) ++ t166)) := by rw [ha]; exact putSel_on (e := (21, 26, .string (((((((((((⟨#[127, 69, 76, 70, 2, 1, 1, 0]⟩ : ByteArray) ++ (strOfNums y155)) ++ t158) ++ t159) ++ t160) ++ t161) ++ t162) ++ t163) ++ t164) ++ t165) ++ t166))) 20 rfl rfl (hon 21 by7) rfl
                                  have e28 : a.tmps[28]? = some (.string t167) := by rw [ha]; exact putSel_on (e := (23, 28, .string t167)) 21 rfl rfl (hon 23 by7) rfl
                                  replace ha := Aside0.mk ha
                                  have HB := Aside0.mk Q_HB
                                  have HO157 := Aside0.mk (Q_HO157 (hon 0 by7))
                                  refine value_ (w1 := w') (v := .string ((((((((((((⟨#[127, 69, 76, 70, 2, 1, 1, 0]⟩ : ByteArray) ++ (strOfNums y155)) ++ t158) ++ t159) ++ t160) ++ t161) ++ t162) ++ t163) ++ t164) ++ t165) ++ t166) ++ t167)) (by rfl) rfl ?_ ?_
                                  · go_simp
                                    (try simp only [i64_w])
                                    try rfl
                                    all_goals first | done | (have h_ := c3; simp only [ByteArray.size_append] at h_; exact h_) | (have h_ := c4; simp only [ByteArray.size_append] at h_; exact h_) | (have h_ := c6; simp only [ByteArray.size_append] at h_; exact h_) | (have h_ := c8; simp only [ByteArray.size_append] at h_; exact h_) | (have h_ := c10; simp only [ByteArray.size_append] at h_; exact h_) | (have h_ := c12; simp only [ByteArray.size_append] at h_; exact h_) | (have h_ := c14; simp only [ByteArray.size_append] at h_; exact h_) | (have h_ := c16; simp only [ByteArray.size_append] at h_; exact h_) | (have h_ := c18; simp only [ByteArray.size_append] at h_; exact h_) | (have h_ := c20; simp only [ByteArray.size_append] at h_; exact h_) | (have h_ := c22; simp only [ByteArray.size_append] at h_; exact h_) | (have h_ := c24; simp only [ByteArray.size_append] at h_; exact h_) | (have h_ := c25; simp only [ByteArray.size_append] at h_; exact h_) | (have h_ := c26; simp only [ByteArray.size_append] at h_; exact h_)
                                  refine hK.out _ _ ⟨v156, v169, (by rw [ha.out]; exact putSel_upk 22 hb_ rfl rfl rfl), Q_HB, Q_HO157, Q_HO170⟩
                                refine steps_cons ?_ ?_
                                · rintro b a w' ⟨v156, v169, ha, Q_HB, Q_HO157, Q_HO170⟩ hb_ hon hoff
                                  refine ⟨_, rfl, fun K hK => ?_⟩
                                  replace ha := Aside0.mk ha
                                  have HB := Aside0.mk Q_HB
                                  refine Kd.R_make_step (Kd.int .u8) _ 5 (by rfl) (N := 30) rfl 87 _ _ rfl 6 rfl rfl Try.underlying87 (.int .u8 0) 1 info5 rfl (by decide) (by omega) 0 (ok := fun _ => True) (okp := fun _ => True) rfl (fun _ hk => hk) trivial (by omega) (by omega) (Below.refl _ _) (Nat.le_refl _) ?_
                                  intro v169 w28 ho29 hb hg_ hnew_
                                  clear hg_ hnew_
                                  (first | rw [← Ny168.out] at ho29 | (simp only [Int.reduceToNat] at ho29; rw [← Ny168.out] at ho29))
                                  have n0_ := Aside0.mk (Kd.R_lower ho29 (below_size by1))
                                  have n1_ := Aside0.mk (below_step by1 hb)
                                  have z_HO157 := fun (h0_ : b 0 = true) => (show Kd.R (Kd.int .u8) 5 w28 w.heap.size (fun _ => True) v156 y155 from by first | exact (Kd.R_elder' by12 (Kd.R_base ho29) hb) | exact Kd.R_mono (Kd.R_elder' by12 (Kd.R_base ho29) hb) (fun _ h_ => by first | trivial | exact h_ | exact h_.1))
                                  clear HB
                                  have HO170 := n0_
                                  have HB := n1_
                                  clear n0_ n1_
                                  clear hb ho29
                                  refine hK.out _ _ ⟨v156, v169, (by rw [ha.out]; exact putSel_upk 23 hb_ rfl rfl rfl), by1, z_HO157, fun _ => (by (with_reducible repeat (first | apply Kd.R_alloc | apply Kd.R_drewN | apply Kd.R_drew)); exact HO170.out)⟩
                                refine steps_cons ?_ ?_
                                · rintro b a w' ⟨v156, v169, ha, Q_HB, Q_HO157, Q_HO170⟩ hb_ hon hoff
                                  refine ⟨_, rfl, fun K hK => ?_⟩
                                  have e30 : a.tmps[30]? = some (v169) := by rw [ha]; exact putSel_on (e := (25, 30, v169)) 23 rfl rfl (hon 25 by7) rfl
                                  replace ha := Aside0.mk ha
                                  have HB := Aside0.mk Q_HB
                                  have HO170 := Aside0.mk (Q_HO170 (hon 25 by7))
                                  have hcv31 := own_string (P := Try.prog) Try.underlying87 Try.underlying5 Try.underlying9 (Kd.own_of_R HO170.out)
                                  refine value_ (w1 := w') (v := .string (strOfNums y168)) (by rfl) rfl ?_ ?_
                                  · go_simp
                                    (try simp only [i64_w])
                                    try rfl
                                    all_goals first | done | (have h_ := c3; simp only [ByteArray.size_append] at h_; exact h_) | (have h_ := c4; simp only [ByteArray.size_append] at h_; exact h_) | (have h_ := c6; simp only [ByteArray.size_append] at h_; exact h_) | (have h_ := c8; simp only [ByteArray.size_append] at h_; exact h_) | (have h_ := c10; simp only [ByteArray.size_append] at h_; exact h_) | (have h_ := c12; simp only [ByteArray.size_append] at h_; exact h_) | (have h_ := c14; simp only [ByteArray.size_append] at h_; exact h_) | (have h_ := c16; simp only [ByteArray.size_append] at h_; exact h_) | (have h_ := c18; simp only [ByteArray.size_append] at h_; exact h_) | (have h_ := c20; simp only [ByteArray.size_append] at h_; exact h_) | (have h_ := c22; simp only [ByteArray.size_append] at h_; exact h_) | (have h_ := c24; simp only [ByteArray.size_append] at h_; exact h_) | (have h_ := c25; simp only [ByteArray.size_append] at h_; exact h_) | (have h_ := c26; simp only [ByteArray.size_append] at h_; exact h_)
                                  refine hK.out _ _ ⟨v156, v169, (by rw [ha.out]; exact putSel_upk 24 hb_ rfl rfl rfl), Q_HB, Q_HO157, Q_HO170⟩
                                refine steps_cons ?_ ?_
                                · rintro b a w' ⟨v156, v169, ha, Q_HB, Q_HO157, Q_HO170⟩ hb_ hon hoff
                                  refine ⟨_, rfl, fun K hK => ?_⟩
                                  have e29 : a.tmps[29]? = some (.string ((((((((((((⟨#[127, 69, 76, 70, 2, 1, 1, 0]⟩ : ByteArray) ++ (strOfNums y155)) ++ t158) ++ t159) ++ t160) ++ t161) ++ t162) ++ t163) ++ t164) ++ t165) ++ t166) ++ t167)) := by rw [ha]; exact putSel_on (e := (24, 29, .string ((((((((((((⟨#[127, 69, 76, 70, 2, 1, 1, 0]⟩ : ByteArray) ++ (strOfNums y155)) ++ t158) ++ t159) ++ t160) ++ t161) ++ t162) ++ t163) ++ t164) ++ t165) ++ t166) ++ t167))) 22 rfl rfl (hon 24 by7) rfl
                                  have e31 : a.tmps[31]? = some (.string (strOfNums y168)) := by rw [ha]; exact putSel_on (e := (26, 31, .string (strOfNums y168))) 24 rfl rfl (hon 26 by7) rfl
                                  replace ha := Aside0.mk ha
                                  have HB := Aside0.mk Q_HB
                                  have HO157 := Aside0.mk (Q_HO157 (hon 0 by7))
                                  have HO170 := Aside0.mk (Q_HO170 (hon 25 by7))
                                  refine value_ (w1 := w') (v := .string (((((((((((((⟨#[127, 69, 76, 70, 2, 1, 1, 0]⟩ : ByteArray) ++ (strOfNums y155)) ++ t158) ++ t159) ++ t160) ++ t161) ++ t162) ++ t163) ++ t164) ++ t165) ++ t166) ++ t167) ++ (strOfNums y168))) (by rfl) rfl ?_ ?_
                                  · go_simp
                                    (try simp only [i64_w])
                                    try rfl
                                    all_goals first | done | (have h_ := c3; simp only [ByteArray.size_append] at h_; exact h_) | (have h_ := c4; simp only [ByteArray.size_append] at h_; exact h_) | (have h_ := c6; simp only [ByteArray.size_append] at h_; exact h_) | (have h_ := c8; simp only [ByteArray.size_append] at h_; exact h_) | (have h_ := c10; simp only [ByteArray.size_append] at h_; exact h_) | (have h_ := c12; simp only [ByteArray.size_append] at h_; exact h_) | (have h_ := c14; simp only [ByteArray.size_append] at h_; exact h_) | (have h_ := c16; simp only [ByteArray.size_append] at h_; exact h_) | (have h_ := c18; simp only [ByteArray.size_append] at h_; exact h_) | (have h_ := c20; simp only [ByteArray.size_append] at h_; exact h_) | (have h_ := c22; simp only [ByteArray.size_append] at h_; exact h_) | (have h_ := c24; simp only [ByteArray.size_append] at h_; exact h_) | (have h_ := c25; simp only [ByteArray.size_append] at h_; exact h_) | (have h_ := c26; simp only [ByteArray.size_append] at h_; exact h_)
                                  refine hK.out _ _ ⟨v156, v169, (by rw [ha.out]; exact putSel_upk 25 hb_ rfl rfl rfl), Q_HB, Q_HO157, Q_HO170⟩
                                refine steps_cons ?_ ?_
                                · rintro b a w' ⟨v156, v169, ha, Q_HB, Q_HO157, Q_HO170⟩ hb_ hon hoff
                                  refine ⟨_, rfl, fun K hK => ?_⟩
                                  have e32 : a.tmps[32]? = some (.string (((((((((((((⟨#[127, 69, 76, 70, 2, 1, 1, 0]⟩ : ByteArray) ++ (strOfNums y155)) ++ t158) ++ t159) ++ t160) ++ t161) ++ t162) ++ t163) ++ t164) ++ t165) ++ t166) ++ t167) ++ (strOfNums y168))) := by rw [ha]; exact putSel_on (e := (27, 32, .string (((((((((((((⟨#[127, 69, 76, 70, 2, 1, 1, 0]⟩ : ByteArray) ++ (strOfNums y155)) ++ t158) ++ t159) ++ t160) ++ t161) ++ t162) ++ t163) ++ t164) ++ t165) ++ t166) ++ t167) ++ (strOfNums y168)))) 25 rfl rfl (hon 27 by7) rfl
                                  replace ha := Aside0.mk ha
                                  have HB := Aside0.mk Q_HB
                                  have HO157 := Aside0.mk (Q_HO157 (hon 0 by7))
                                  have HO170 := Aside0.mk (Q_HO170 (hon 25 by7))
                                  refine value_ (w1 := w') (v := .string (((((((((((((⟨#[127, 69, 76, 70, 2, 1, 1, 0]⟩ : ByteArray) ++ (strOfNums y155)) ++ t158) ++ t159) ++ t160) ++ t161) ++ t162) ++ t163) ++ t164) ++ t165) ++ t166) ++ t167) ++ (strOfNums y168))) (by rfl) rfl ?_ ?_
                                  · go_simp
                                    (try simp only [i64_w])
                                    try rfl
                                    all_goals first | done | (have h_ := c3; simp only [ByteArray.size_append] at h_; exact h_) | (have h_ := c4; simp only [ByteArray.size_append] at h_; exact h_) | (have h_ := c6; simp only [ByteArray.size_append] at h_; exact h_) | (have h_ := c8; simp only [ByteArray.size_append] at h_; exact h_) | (have h_ := c10; simp only [ByteArray.size_append] at h_; exact h_) | (have h_ := c12; simp only [ByteArray.size_append] at h_; exact h_) | (have h_ := c14; simp only [ByteArray.size_append] at h_; exact h_) | (have h_ := c16; simp only [ByteArray.size_append] at h_; exact h_) | (have h_ := c18; simp only [ByteArray.size_append] at h_; exact h_) | (have h_ := c20; simp only [ByteArray.size_append] at h_; exact h_) | (have h_ := c22; simp only [ByteArray.size_append] at h_; exact h_) | (have h_ := c24; simp only [ByteArray.size_append] at h_; exact h_) | (have h_ := c25; simp only [ByteArray.size_append] at h_; exact h_) | (have h_ := c26; simp only [ByteArray.size_append] at h_; exact h_)
                                  refine hK.out _ _ ⟨v156, v169, (by rw [ha.out]; exact putSel_upk 26 hb_ rfl rfl rfl), Q_HB, Q_HO157, Q_HO170⟩
                                exact steps_nil
                              rintro b a w44 hall ⟨v156, v169, ha, Q_HB, Q_HO157, Q_HO170⟩
                              clear HB
                              have hb0_ := hall 0 by7
                              have hb1_ := hall 1 by7
                              have hb2_ := hall 2 by7
                              have hb3_ := hall 3 by7
                              have hb4_ := hall 4 by7
                              have hb5_ := hall 5 by7
                              have hb6_ := hall 6 by7
                              have hb7_ := hall 7 by7
                              have hb8_ := hall 8 by7
                              have hb10_ := hall 10 by7
                              have hb11_ := hall 11 by7
                              have hb12_ := hall 12 by7
                              have hb13_ := hall 13 by7
                              have hb14_ := hall 14 by7
                              have hb15_ := hall 15 by7
                              have hb16_ := hall 16 by7
                              have hb17_ := hall 17 by7
                              have hb18_ := hall 18 by7
                              have hb19_ := hall 19 by7
                              have hb20_ := hall 20 by7
                              have hb21_ := hall 21 by7
                              have hb23_ := hall 23 by7
                              have hb24_ := hall 24 by7
                              have hb25_ := hall 25 by7
                              have hb26_ := hall 26 by7
                              have hb27_ := hall 27 by7
                              have hb28_ := hall 28 by7
                              subst ha
                              simp only [putSel, hb0_, hb1_, hb2_, hb3_, hb4_, hb5_, hb6_, hb7_, hb8_, hb10_, hb11_, hb12_, hb13_, hb14_, hb15_, hb16_, hb17_, hb18_, hb19_, hb20_, hb21_, hb23_, hb24_, hb25_, hb26_, hb27_, hb28_, if_true, Act.put, List.setIfInBounds_toArray, List.set_cons_zero, List.set_cons_succ]
                              have HB := Aside0.mk Q_HB
                              clear Q_HB
                              have HO157 := Aside0.mk (Q_HO157 hb0_)
                              clear Q_HO157
                              have HO170 := Aside0.mk (Q_HO170 hb25_)
                              clear Q_HO170
                              clear hall hb0_ hb1_ hb2_ hb3_ hb4_ hb5_ hb6_ hb7_ hb8_ hb10_ hb11_ hb12_ hb13_ hb14_ hb15_ hb16_ hb17_ hb18_ hb19_ hb20_ hb21_ hb23_ hb24_ hb25_ hb26_ hb27_ hb28_
                              try go_wp2
                              go_ret
                              exact ⟨by first | rfl | (simp [errW_none, errW_some] <;> rfl) | (simp [*, errW_none, errW_some] <;> rfl), by repeat (first | (with_reducible first | exact HB.out | apply below_alloc | apply pw_below_drewN | apply below_drew1) | exact HB.out)⟩
                            · rw [if_neg c26] at H
                              exact absurd H (by simp)
                          · rw [if_neg c25] at H
                            exact absurd H (by simp)
                        · rw [if_neg c24] at H
                          exact absurd H (by simp)
                      · rw [if_neg c22] at H
                        exact absurd H (by simp)
                    · rw [if_neg c20] at H
                      exact absurd H (by simp)
                  · rw [if_neg c18] at H
                    exact absurd H (by simp)
                · rw [if_neg c16] at H
                  exact absurd H (by simp)
              · rw [if_neg c14] at H
                exact absurd H (by simp)
            · rw [if_neg c12] at H
              exact absurd H (by simp)
          · rw [if_neg c10] at H
            exact absurd H (by simp)
        · rw [if_neg c8] at H
          exact absurd H (by simp)
      · rw [if_neg c6] at H
        exact absurd H (by simp)
    · rw [if_neg c4] at H
      exact absurd H (by simp)
  · rw [if_neg c3] at H
    exact absurd H (by simp)

end Go.Proofs.Ytigoabhkdipdeaa.PFnExactElfText
