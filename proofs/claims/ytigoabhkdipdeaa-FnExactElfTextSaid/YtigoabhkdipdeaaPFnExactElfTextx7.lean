/- Laid by a program of this session (patch_print.py) out of the translation: plain functions and what the calls do. No condition. -/
import Derived.Test.YtigoabhkdipdeaaPFnExactElfTextx0
import Derived.Test.YtigoabhkdipdeaaPFnExactElfTextx6
namespace Go.Proofs.Ytigoabhkdipdeaa.PFnExactElfText
open Go.RowKit Go.Proofs.YtigoabhkdipdeaaW.PrintWords Go.Proofs.YtigoabhkdipdeaaW.PrintLast Go.Proofs.YtigoabhkdipdeaaW.PrintMore
attribute [local go_sem] max2_int min2_int max_two min_two max_three min_three max_four min_four   -- for this text's walks alone
set_option linter.unusedVariables false
set_option linter.unusedSimpArgs false

/-! ### spec_l10Text: function 74 -/
mutual
def spec_l10Text.l0 : Nat → ByteArray → Int → Int → Int → List (S111) → Option (ByteArray)
  | 0, _, _, _, _, _ => none
  | k + 1, x3, x4, x5, x172000, x172001 => if x5 < (x172001.length : Int) then (if 0 ≤ x5 then ((spec_l01Little.f k 1 4).bind fun t175 => ((spec_l01Little.f k ((rd_T111 x172001 x5).f0) 4).bind fun t176 => (if t175.size + t176.size ≤ 9223372036854775807 then ((spec_l01Little.f k x4 8).bind fun t177 => (if (t175 ++ t176).size + t177.size ≤ 9223372036854775807 then ((spec_l01Little.f k ((rd_T111 x172001 x5).f1) 8).bind fun t178 => (if ((t175 ++ t176) ++ t177).size + t178.size ≤ 9223372036854775807 then ((spec_l01Little.f k ((rd_T111 x172001 x5).f1) 8).bind fun t179 => (if (((t175 ++ t176) ++ t177) ++ t178).size + t179.size ≤ 9223372036854775807 then ((spec_l01Little.f k (((rd_T111 x172001 x5).f3).size : Int) 8).bind fun t180 => (if ((((t175 ++ t176) ++ t177) ++ t178) ++ t179).size + t180.size ≤ 9223372036854775807 then ((spec_l01Little.f k ((rd_T111 x172001 x5).f2) 8).bind fun t181 => (if (((((t175 ++ t176) ++ t177) ++ t178) ++ t179) ++ t180).size + t181.size ≤ 9223372036854775807 then ((spec_l01Little.f k 256 8).bind fun t182 => (if ((((((t175 ++ t176) ++ t177) ++ t178) ++ t179) ++ t180) ++ t181).size + t182.size ≤ 9223372036854775807 then (if x3.size + (((((((t175 ++ t176) ++ t177) ++ t178) ++ t179) ++ t180) ++ t181) ++ t182).size ≤ 9223372036854775807 then (spec_l10Text.l0 k (x3 ++ (((((((t175 ++ t176) ++ t177) ++ t178) ++ t179) ++ t180) ++ t181) ++ t182)) (wrap64 (x4 + (((rd_T111 x172001 x5).f3).size : Int))) (wrap64 (x5 + 1)) x172000 x172001) else (none)) else (none))) else (none))) else (none))) else (none))) else (none))) else (none))) else (none)))) else (none)) else (spec_l10Text.l1 k x3 0 x172000 x172001)
def spec_l10Text.l1 : Nat → ByteArray → Int → Int → List (S111) → Option (ByteArray)
  | 0, _, _, _, _ => none
  | k + 1, x3, x7, x172000, x172001 => if x7 < (x172001.length : Int) then (if 0 ≤ x7 then (if x3.size + ((rd_T111 x172001 x7).f3).size ≤ 9223372036854775807 then (spec_l10Text.l1 k (x3 ++ ((rd_T111 x172001 x7).f3)) (wrap64 (x7 + 1)) x172000 x172001) else (none)) else (none)) else (some x3)
end
def spec_l10Text.f (k : Nat) (a0_0 : Int) (l0_1 : List (S111)) : Option (ByteArray) := (spec_l10Head.f k a0_0 (l0_1.length : Int)).bind fun t172 => (spec_l10Text.l0 k t172 (wrap64 (64 + (wrap64 (56 * (l0_1.length : Int))))) 0 a0_0 l0_1)
theorem spec_l10Text.mono_l : ∀ k, (∀ y0 y1 y2 y3 y4, LeO (spec_l10Text.l0 k y0 y1 y2 y3 y4) (spec_l10Text.l0 (k + 1) y0 y1 y2 y3 y4)) ∧ (∀ y0 y1 y2 y3, LeO (spec_l10Text.l1 k y0 y1 y2 y3) (spec_l10Text.l1 (k + 1) y0 y1 y2 y3))
  | 0 => ⟨fun _ _ _ _ _ r h => by simp [spec_l10Text.l0] at h, fun _ _ _ _ r h => by simp [spec_l10Text.l1] at h⟩
  | k + 1 => by
    obtain ⟨ih0, ih1⟩ := spec_l10Text.mono_l k
    refine ⟨?_, ?_⟩
    · intro y0 y1 y2 y3 y4
      unfold spec_l10Text.l0
      repeat' first
      | (with_reducible exact ih0 _ _ _ _ _)
      | (with_reducible exact ih1 _ _ _ _)
      | (with_reducible exact spec_l01Little.mono _ _ _)
      | (with_reducible exact spec_l10Head.mono _ _ _)
      | (with_reducible exact LeO.refl _)
      | (with_reducible exact LeO.none _)
      | (with_reducible refine LeO.ite ?_ ?_)
      | (with_reducible refine LeO.bind ?_ (fun _ => ?_))
      | exact ih0 _ _ _ _ _
      | exact ih1 _ _ _ _
      | exact spec_l01Little.mono _ _ _
      | exact spec_l10Head.mono _ _ _
      | exact LeO.none _
      | refine LeO.ite ?_ ?_
      | refine LeO.bind ?_ (fun _ => ?_)
    · intro y0 y1 y2 y3
      unfold spec_l10Text.l1
      repeat' first
      | (with_reducible exact ih0 _ _ _ _ _)
      | (with_reducible exact ih1 _ _ _ _)
      | (with_reducible exact spec_l01Little.mono _ _ _)
      | (with_reducible exact spec_l10Head.mono _ _ _)
      | (with_reducible exact LeO.refl _)
      | (with_reducible exact LeO.none _)
      | (with_reducible refine LeO.ite ?_ ?_)
      | (with_reducible refine LeO.bind ?_ (fun _ => ?_))
      | exact ih0 _ _ _ _ _
      | exact ih1 _ _ _ _
      | exact spec_l01Little.mono _ _ _
      | exact spec_l10Head.mono _ _ _
      | exact LeO.none _
      | refine LeO.ite ?_ ?_
      | refine LeO.bind ?_ (fun _ => ?_)
theorem spec_l10Text.mono : ∀ a0 a1 k, LeO (spec_l10Text.f k a0 a1) (spec_l10Text.f (k + 1) a0 a1) := by
  intro a0 a1 k
  obtain ⟨ih0, ih1⟩ := spec_l10Text.mono_l k
  unfold spec_l10Text.f
  repeat' first
      | (with_reducible exact ih0 _ _ _ _ _)
      | (with_reducible exact ih1 _ _ _ _)
      | (with_reducible exact spec_l01Little.mono _ _ _)
      | (with_reducible exact spec_l10Head.mono _ _ _)
      | (with_reducible exact LeO.refl _)
      | (with_reducible exact LeO.none _)
      | (with_reducible refine LeO.ite ?_ ?_)
      | (with_reducible refine LeO.bind ?_ (fun _ => ?_))
      | exact ih0 _ _ _ _ _
      | exact ih1 _ _ _ _
      | exact spec_l01Little.mono _ _ _
      | exact spec_l10Head.mono _ _ _
      | exact LeO.none _
      | refine LeO.ite ?_ ?_
      | refine LeO.bind ?_ (fun _ => ?_)
def spec_l10Text.T7 : Bool × List (List Nat × List Nat) := (true, [([], []), ([], []), ([], []), ([2], [2]), ([3, 1], [3]), ([1, 4], [1, 4]), ([], []), ([6, 4], [6]), ([5, 7], [5, 7]), ([], []), ([9], [9]), ([10, 7], [10]), ([8, 11], [8, 11]), ([], []), ([13], [13]), ([14, 11], [14]), ([12, 15], [12, 15]), ([], []), ([17], [17]), ([18], [18]), ([19, 15], [19]), ([16, 20], [16, 20]), ([], []), ([22], [22]), ([23, 20], [23]), ([21, 24], [21, 24]), ([24], []), ([25, 26], [25, 26]), ([0, 27], [0, 27]), ([28, 26, 0, 1, 2, 3, 4, 5, 6, 7, 8, 9, 10, 11, 12, 13, 14, 15, 16, 17, 18, 19, 20, 21, 22, 23, 24, 25, 26, 27, 28], [0, 28])])
def spec_l10Text.B7 : List Nat := [0, 0, 0, 4, 14, 30, 0, 94, 254, 0, 512, 1758, 4094, 0, 8192, 28382, 65534, 0, 131072, 393216, 978654, 2097150, 0, 4194304, 14610142, 33554430, 31387358, 134217726, 268435455, 536870911]
theorem spec_l10Text.tab7 : rtab .any (opsOf Try.f74 7) = spec_l10Text.T7 := by kernel_rfl
theorem spec_l10Text.bits7 : waitsOk spec_l10Text.T7.2 spec_l10Text.B7 = true := by kernel_rfl
set_option maxHeartbeats 8000000 in
set_option maxRecDepth 100000 in
theorem spec_l10Text.calls (k : Nat) (a0_0 : Int) (A0_1 : Option Addr) (c0_1 : Nat) (l0_1 : List (S111)) (r : ByteArray) (w : World) (hr0_1 : Kd.C k111 w A0_1 l0_1.length l0_1) (hc0_1 : l0_1.length ≤ c0_1) (h : spec_l10Text.f k a0_0 l0_1 = some r) :
    Calls Try.prog 74 #[.agg #[.int .i64 a0_0, .slice A0_1 l0_1.length c0_1]] w fun e w' => e = .returned (.string r) ∧ Below w.heap.size w w' := by
  have hu29 := Try.underlying29
  have hu111 := Try.underlying111
  have HR0_1 := Aside0.mk hr0_1
  have HC0_1 := Aside0.mk hc0_1
  clear hr0_1 hc0_1
  have HB := Aside0.mk (Below.refl w.heap.size w)
  have H : ((spec_l10Head.f k a0_0 (l0_1.length : Int)).bind fun t172 => (spec_l10Text.l0 k t172 (wrap64 (64 + (wrap64 (56 * (l0_1.length : Int))))) 0 a0_0 l0_1)) = some r := h
  clear h
  replace H := Option.bind_eq_some_iff.mp H
  obtain ⟨t172, A20, H⟩ := H
  replace H : (spec_l10Text.l0 k t172 (wrap64 (64 + (wrap64 (56 * (l0_1.length : Int))))) 0 a0_0 l0_1) = some r := H
  have A2 := Aside0.mk A20
  clear A20
  have H' := Aside0.mk H
  clear H
  go_enter Try.func74, Try.ntmps74
  go_wp2_with (first | ((with_reducible refine gate_dst (N := 1) rfl ?_); refine box_event ?hg (N := 1) ?hd (cs := #[.int .i64 a0_0, .slice A0_1 l0_1.length c0_1]) (t := 29) ?hr ?_; (case hd => rfl); (case hg => rfl); (case hr => first | (go_simp; done) | (go_simp; rfl)); intro gb171 hg w3 hbox hb; have n0_ := Aside0.mk (below_step by1 hb); have n1_ := Aside0.mk (hbox); have n2_ := Aside0.mk ((by0 : w.heap.size ≤ gb171)); have n3_ := Aside0.mk ((by0 : w.heap.size ≤ gb171)); clear HB; have HB := n0_; have BK171 := n1_; have GW171 := n2_; have GE171 := n3_; clear n0_ n1_ n2_ n3_; clear hb hbox hg; have hcz4_0 : w3.cell? ⟨gb171, 0, none⟩ = some (.int .i64 a0_0) := (blk_cell BK171.out 0).trans rfl; have hcz4_1 : w3.cell? ⟨gb171, 1, none⟩ = some (.slice A0_1 l0_1.length c0_1) := (blk_cell BK171.out 1).trans rfl; have hfz4_0 := blk_frozen BK171.out 0; have hfz4_1 := blk_frozen BK171.out 1) | ((with_reducible refine gate_callee (f := 151) rfl ?_); refine goesL_ (some 13) rfl rfl Try.func151 by7 rfl #[.int .i64 a0_0, .int .i64 (l0_1.length : Int)] rfl by2 ?_; (with_reducible refine (spec_l10Head.calls k a0_0 (l0_1.length : Int) t172 _ A2.out).mono ?_); rintro e w5 ⟨rfl, hb⟩; refine ⟨_, rfl, ?_⟩; have n0_ := Aside0.mk (blk_below (g := gb171) (o := .cells #[.int .i64 a0_0, .slice A0_1 l0_1.length c0_1] 29 (0, 0)) by30 hb); have n1_ := Aside0.mk (below_step by72 hb); clear BK171; clear HB; have BK171 := n0_; have HB := n1_; clear n0_ n1_; (try clear hb); (try clear hb2); (try clear hk); (try clear hi); have hcz6_0 : w5.cell? ⟨gb171, 0, none⟩ = some (.int .i64 a0_0) := (blk_cell BK171.out 0).trans rfl; have hcz6_1 : w5.cell? ⟨gb171, 1, none⟩ = some (.slice A0_1 l0_1.length c0_1) := (blk_cell BK171.out 1).trans rfl; have hfz6_0 := blk_frozen BK171.out 0; have hfz6_1 := blk_frozen BK171.out 1))
  go_loopg [3, 4, 5] k (fun kq v3 v4 v5 w' => ∃ (x3_1 : ByteArray) (x4_1 : Int) (x5_1 : Int), v3 = .string x3_1 ∧ v4 = .int .i64 x4_1 ∧ v5 = .int .i64 x5_1 ∧ Aside0 (spec_l10Text.l0 kq x3_1 x4_1 x5_1 a0_0 l0_1 = some r) ∧ Aside0 (kq ≤ k) ∧ Aside0 (w'.heap[gb171]? = some (.cells #[.int .i64 a0_0, (.slice A0_1 l0_1.length c0_1)] 29 (0, 0))) ∧ Aside0 (Below w.heap.size w w'))
  case atStart => exact ⟨(t172), (wrap64 (64 + (wrap64 (56 * (l0_1.length : Int))))), (0), by9, by9, by9, H', ⟨Nat.le_refl _⟩, ⟨by (with_reducible repeat (first | refine blk_drewN ?_ _ | refine blk_drew ?_ | refine blk_alloc ?_ _)); exact BK171.out⟩, ⟨by repeat (first | (with_reducible first | exact HB.out | apply below_alloc | apply pw_below_drewN | apply below_drew1 | refine below_set ?_ GE171.out) | exact HB.out)⟩⟩
  case round =>
    clear H'
    try clear c1
    try clear p2
    try clear p6
    try clear hcz4_0
    try clear hcz4_1
    try clear hcz6_0
    try clear hcz6_1
    try clear hfz4_0
    try clear hfz4_1
    try clear hfz6_0
    try clear hfz6_1
    obtain ⟨x3_1, x4_1, x5_1, rfl, rfl, rfl, HA, HK1, BK171, HB⟩ := hrel
    cases gk with
    | zero => exact absurd HA.out (by simp [spec_l10Text.l0])
    | succ k1 =>
      have H := HA.out
      clear HA
      simp only [spec_l10Text.l0] at H
      by_cases c7 : x5_1 < (l0_1.length : Int)
      · rw [if_pos c7] at H
        have c7b0 : decide (x5_1 < (l0_1.length : Int)) = true := decide_eq_true c7
        clear c7
        by_cases c8 : 0 ≤ x5_1
        · rw [if_pos c8] at H
          have c8b0 : decide (0 ≤ x5_1) = true := decide_eq_true c8
          clear c8
          replace H := Option.bind_eq_some_iff.mp H
          obtain ⟨t175, A90, H⟩ := H
          replace H : ((spec_l01Little.f k1 ((rd_T111 l0_1 x5_1).f0) 4).bind fun t176 => (if t175.size + t176.size ≤ 9223372036854775807 then ((spec_l01Little.f k1 x4_1 8).bind fun t177 => (if (t175 ++ t176).size + t177.size ≤ 9223372036854775807 then ((spec_l01Little.f k1 ((rd_T111 l0_1 x5_1).f1) 8).bind fun t178 => (if ((t175 ++ t176) ++ t177).size + t178.size ≤ 9223372036854775807 then ((spec_l01Little.f k1 ((rd_T111 l0_1 x5_1).f1) 8).bind fun t179 => (if (((t175 ++ t176) ++ t177) ++ t178).size + t179.size ≤ 9223372036854775807 then ((spec_l01Little.f k1 (((rd_T111 l0_1 x5_1).f3).size : Int) 8).bind fun t180 => (if ((((t175 ++ t176) ++ t177) ++ t178) ++ t179).size + t180.size ≤ 9223372036854775807 then ((spec_l01Little.f k1 ((rd_T111 l0_1 x5_1).f2) 8).bind fun t181 => (if (((((t175 ++ t176) ++ t177) ++ t178) ++ t179) ++ t180).size + t181.size ≤ 9223372036854775807 then ((spec_l01Little.f k1 256 8).bind fun t182 => (if ((((((t175 ++ t176) ++ t177) ++ t178) ++ t179) ++ t180) ++ t181).size + t182.size ≤ 9223372036854775807 then (if x3_1.size + (((((((t175 ++ t176) ++ t177) ++ t178) ++ t179) ++ t180) ++ t181) ++ t182).size ≤ 9223372036854775807 then (spec_l10Text.l0 k1 (x3_1 ++ (((((((t175 ++ t176) ++ t177) ++ t178) ++ t179) ++ t180) ++ t181) ++ t182)) (wrap64 (x4_1 + (((rd_T111 l0_1 x5_1).f3).size : Int))) (wrap64 (x5_1 + 1)) a0_0 l0_1) else (none)) else (none))) else (none))) else (none))) else (none))) else (none))) else (none))) else (none))) = some r := H
          have A9 := Aside0.mk A90
          clear A90
          replace H := Option.bind_eq_some_iff.mp H
          obtain ⟨t176, A100, H⟩ := H
          replace H : (if t175.size + t176.size ≤ 9223372036854775807 then ((spec_l01Little.f k1 x4_1 8).bind fun t177 => (if (t175 ++ t176).size + t177.size ≤ 9223372036854775807 then ((spec_l01Little.f k1 ((rd_T111 l0_1 x5_1).f1) 8).bind fun t178 => (if ((t175 ++ t176) ++ t177).size + t178.size ≤ 9223372036854775807 then ((spec_l01Little.f k1 ((rd_T111 l0_1 x5_1).f1) 8).bind fun t179 => (if (((t175 ++ t176) ++ t177) ++ t178).size + t179.size ≤ 9223372036854775807 then ((spec_l01Little.f k1 (((rd_T111 l0_1 x5_1).f3).size : Int) 8).bind fun t180 => (if ((((t175 ++ t176) ++ t177) ++ t178) ++ t179).size + t180.size ≤ 9223372036854775807 then ((spec_l01Little.f k1 ((rd_T111 l0_1 x5_1).f2) 8).bind fun t181 => (if (((((t175 ++ t176) ++ t177) ++ t178) ++ t179) ++ t180).size + t181.size ≤ 9223372036854775807 then ((spec_l01Little.f k1 256 8).bind fun t182 => (if ((((((t175 ++ t176) ++ t177) ++ t178) ++ t179) ++ t180) ++ t181).size + t182.size ≤ 9223372036854775807 then (if x3_1.size + (((((((t175 ++ t176) ++ t177) ++ t178) ++ t179) ++ t180) ++ t181) ++ t182).size ≤ 9223372036854775807 then (spec_l10Text.l0 k1 (x3_1 ++ (((((((t175 ++ t176) ++ t177) ++ t178) ++ t179) ++ t180) ++ t181) ++ t182)) (wrap64 (x4_1 + (((rd_T111 l0_1 x5_1).f3).size : Int))) (wrap64 (x5_1 + 1)) a0_0 l0_1) else (none)) else (none))) else (none))) else (none))) else (none))) else (none))) else (none))) else (none)) = some r := H
          have A10 := Aside0.mk A100
          clear A100
          by_cases c11 : t175.size + t176.size ≤ 9223372036854775807
          · rw [if_pos c11] at H
            have c11b0 := eq_true c11
            have c11b1 : decide (t175.size + t176.size ≤ 9223372036854775807) = true := decide_eq_true c11
            try have c11b2 : (9223372036854775807 < t175.size + t176.size) = False := eq_false (Nat.not_lt.2 c11)
            replace H := Option.bind_eq_some_iff.mp H
            obtain ⟨t177, A120, H⟩ := H
            replace H : (if (t175 ++ t176).size + t177.size ≤ 9223372036854775807 then ((spec_l01Little.f k1 ((rd_T111 l0_1 x5_1).f1) 8).bind fun t178 => (if ((t175 ++ t176) ++ t177).size + t178.size ≤ 9223372036854775807 then ((spec_l01Little.f k1 ((rd_T111 l0_1 x5_1).f1) 8).bind fun t179 => (if (((t175 ++ t176) ++ t177) ++ t178).size + t179.size ≤ 9223372036854775807 then ((spec_l01Little.f k1 (((rd_T111 l0_1 x5_1).f3).size : Int) 8).bind fun t180 => (if ((((t175 ++ t176) ++ t177) ++ t178) ++ t179).size + t180.size ≤ 9223372036854775807 then ((spec_l01Little.f k1 ((rd_T111 l0_1 x5_1).f2) 8).bind fun t181 => (if (((((t175 ++ t176) ++ t177) ++ t178) ++ t179) ++ t180).size + t181.size ≤ 9223372036854775807 then ((spec_l01Little.f k1 256 8).bind fun t182 => (if ((((((t175 ++ t176) ++ t177) ++ t178) ++ t179) ++ t180) ++ t181).size + t182.size ≤ 9223372036854775807 then (if x3_1.size + (((((((t175 ++ t176) ++ t177) ++ t178) ++ t179) ++ t180) ++ t181) ++ t182).size ≤ 9223372036854775807 then (spec_l10Text.l0 k1 (x3_1 ++ (((((((t175 ++ t176) ++ t177) ++ t178) ++ t179) ++ t180) ++ t181) ++ t182)) (wrap64 (x4_1 + (((rd_T111 l0_1 x5_1).f3).size : Int))) (wrap64 (x5_1 + 1)) a0_0 l0_1) else (none)) else (none))) else (none))) else (none))) else (none))) else (none))) else (none)) = some r := H
            have A12 := Aside0.mk A120
            clear A120
            by_cases c13 : (t175 ++ t176).size + t177.size ≤ 9223372036854775807
            · rw [if_pos c13] at H
              have c13b0 := eq_true c13
              have c13b1 : decide ((t175 ++ t176).size + t177.size ≤ 9223372036854775807) = true := decide_eq_true c13
              try have c13b2 : (9223372036854775807 < (t175 ++ t176).size + t177.size) = False := eq_false (Nat.not_lt.2 c13)
              have c13b4 := c13b2
              (try simp only [ByteArray.size_append] at c13b4)
              replace H := Option.bind_eq_some_iff.mp H
              obtain ⟨t178, A140, H⟩ := H
              replace H : (if ((t175 ++ t176) ++ t177).size + t178.size ≤ 9223372036854775807 then ((spec_l01Little.f k1 ((rd_T111 l0_1 x5_1).f1) 8).bind fun t179 => (if (((t175 ++ t176) ++ t177) ++ t178).size + t179.size ≤ 9223372036854775807 then ((spec_l01Little.f k1 (((rd_T111 l0_1 x5_1).f3).size : Int) 8).bind fun t180 => (if ((((t175 ++ t176) ++ t177) ++ t178) ++ t179).size + t180.size ≤ 9223372036854775807 then ((spec_l01Little.f k1 ((rd_T111 l0_1 x5_1).f2) 8).bind fun t181 => (if (((((t175 ++ t176) ++ t177) ++ t178) ++ t179) ++ t180).size + t181.size ≤ 9223372036854775807 then ((spec_l01Little.f k1 256 8).bind fun t182 => (if ((((((t175 ++ t176) ++ t177) ++ t178) ++ t179) ++ t180) ++ t181).size + t182.size ≤ 9223372036854775807 then (if x3_1.size + (((((((t175 ++ t176) ++ t177) ++ t178) ++ t179) ++ t180) ++ t181) ++ t182).size ≤ 9223372036854775807 then (spec_l10Text.l0 k1 (x3_1 ++ (((((((t175 ++ t176) ++ t177) ++ t178) ++ t179) ++ t180) ++ t181) ++ t182)) (wrap64 (x4_1 + (((rd_T111 l0_1 x5_1).f3).size : Int))) (wrap64 (x5_1 + 1)) a0_0 l0_1) else (none)) else (none))) else (none))) else (none))) else (none))) else (none)) = some r := H
              have A14 := Aside0.mk A140
              clear A140
              by_cases c15 : ((t175 ++ t176) ++ t177).size + t178.size ≤ 9223372036854775807
              · rw [if_pos c15] at H
                have c15b0 := eq_true c15
                have c15b1 : decide (((t175 ++ t176) ++ t177).size + t178.size ≤ 9223372036854775807) = true := decide_eq_true c15
                try have c15b2 : (9223372036854775807 < ((t175 ++ t176) ++ t177).size + t178.size) = False := eq_false (Nat.not_lt.2 c15)
                have c15b4 := c15b2
                (try simp only [ByteArray.size_append] at c15b4)
                replace H := Option.bind_eq_some_iff.mp H
                obtain ⟨t179, A160, H⟩ := H
                replace H : (if (((t175 ++ t176) ++ t177) ++ t178).size + t179.size ≤ 9223372036854775807 then ((spec_l01Little.f k1 (((rd_T111 l0_1 x5_1).f3).size : Int) 8).bind fun t180 => (if ((((t175 ++ t176) ++ t177) ++ t178) ++ t179).size + t180.size ≤ 9223372036854775807 then ((spec_l01Little.f k1 ((rd_T111 l0_1 x5_1).f2) 8).bind fun t181 => (if (((((t175 ++ t176) ++ t177) ++ t178) ++ t179) ++ t180).size + t181.size ≤ 9223372036854775807 then ((spec_l01Little.f k1 256 8).bind fun t182 => (if ((((((t175 ++ t176) ++ t177) ++ t178) ++ t179) ++ t180) ++ t181).size + t182.size ≤ 9223372036854775807 then (if x3_1.size + (((((((t175 ++ t176) ++ t177) ++ t178) ++ t179) ++ t180) ++ t181) ++ t182).size ≤ 9223372036854775807 then (spec_l10Text.l0 k1 (x3_1 ++ (((((((t175 ++ t176) ++ t177) ++ t178) ++ t179) ++ t180) ++ t181) ++ t182)) (wrap64 (x4_1 + (((rd_T111 l0_1 x5_1).f3).size : Int))) (wrap64 (x5_1 + 1)) a0_0 l0_1) else (none)) else (none))) else (none))) else (none))) else (none)) = some r := H
                have A16 := Aside0.mk A160
                clear A160
                by_cases c17 : (((t175 ++ t176) ++ t177) ++ t178).size + t179.size ≤ 9223372036854775807
                · rw [if_pos c17] at H
                  have c17b0 := eq_true c17
                  have c17b1 : decide ((((t175 ++ t176) ++ t177) ++ t178).size + t179.size ≤ 9223372036854775807) = true := decide_eq_true c17
                  try have c17b2 : (9223372036854775807 < (((t175 ++ t176) ++ t177) ++ t178).size + t179.size) = False := eq_false (Nat.not_lt.2 c17)
                  have c17b4 := c17b2
                  (try simp only [ByteArray.size_append] at c17b4)
                  replace H := Option.bind_eq_some_iff.mp H
                  obtain ⟨t180, A180, H⟩ := H
                  replace H : (if ((((t175 ++ t176) ++ t177) ++ t178) ++ t179).size + t180.size ≤ 9223372036854775807 then ((spec_l01Little.f k1 ((rd_T111 l0_1 x5_1).f2) 8).bind fun t181 => (if (((((t175 ++ t176) ++ t177) ++ t178) ++ t179) ++ t180).size + t181.size ≤ 9223372036854775807 then ((spec_l01Little.f k1 256 8).bind fun t182 => (if ((((((t175 ++ t176) ++ t177) ++ t178) ++ t179) ++ t180) ++ t181).size + t182.size ≤ 9223372036854775807 then (if x3_1.size + (((((((t175 ++ t176) ++ t177) ++ t178) ++ t179) ++ t180) ++ t181) ++ t182).size ≤ 9223372036854775807 then (spec_l10Text.l0 k1 (x3_1 ++ (((((((t175 ++ t176) ++ t177) ++ t178) ++ t179) ++ t180) ++ t181) ++ t182)) (wrap64 (x4_1 + (((rd_T111 l0_1 x5_1).f3).size : Int))) (wrap64 (x5_1 + 1)) a0_0 l0_1) else (none)) else (none))) else (none))) else (none)) = some r := H
                  have A18 := Aside0.mk A180
                  clear A180
                  by_cases c19 : ((((t175 ++ t176) ++ t177) ++ t178) ++ t179).size + t180.size ≤ 9223372036854775807
                  · rw [if_pos c19] at H
                    have c19b0 := eq_true c19
                    have c19b1 : decide (((((t175 ++ t176) ++ t177) ++ t178) ++ t179).size + t180.size ≤ 9223372036854775807) = true := decide_eq_true c19
                    try have c19b2 : (9223372036854775807 < ((((t175 ++ t176) ++ t177) ++ t178) ++ t179).size + t180.size) = False := eq_false (Nat.not_lt.2 c19)
                    have c19b4 := c19b2
                    (try simp only [ByteArray.size_append] at c19b4)
                    replace H := Option.bind_eq_some_iff.mp H
                    obtain ⟨t181, A200, H⟩ := H
                    replace H : (if (((((t175 ++ t176) ++ t177) ++ t178) ++ t179) ++ t180).size + t181.size ≤ 9223372036854775807 then ((spec_l01Little.f k1 256 8).bind fun t182 => (if ((((((t175 ++ t176) ++ t177) ++ t178) ++ t179) ++ t180) ++ t181).size + t182.size ≤ 9223372036854775807 then (if x3_1.size + (((((((t175 ++ t176) ++ t177) ++ t178) ++ t179) ++ t180) ++ t181) ++ t182).size ≤ 9223372036854775807 then (spec_l10Text.l0 k1 (x3_1 ++ (((((((t175 ++ t176) ++ t177) ++ t178) ++ t179) ++ t180) ++ t181) ++ t182)) (wrap64 (x4_1 + (((rd_T111 l0_1 x5_1).f3).size : Int))) (wrap64 (x5_1 + 1)) a0_0 l0_1) else (none)) else (none))) else (none)) = some r := H
                    have A20 := Aside0.mk A200
                    clear A200
                    by_cases c21 : (((((t175 ++ t176) ++ t177) ++ t178) ++ t179) ++ t180).size + t181.size ≤ 9223372036854775807
                    · rw [if_pos c21] at H
                      have c21b0 := eq_true c21
                      have c21b1 : decide ((((((t175 ++ t176) ++ t177) ++ t178) ++ t179) ++ t180).size + t181.size ≤ 9223372036854775807) = true := decide_eq_true c21
                      try have c21b2 : (9223372036854775807 < (((((t175 ++ t176) ++ t177) ++ t178) ++ t179) ++ t180).size + t181.size) = False := eq_false (Nat.not_lt.2 c21)
                      have c21b4 := c21b2
                      (try simp only [ByteArray.size_append] at c21b4)
                      replace H := Option.bind_eq_some_iff.mp H
                      obtain ⟨t182, A220, H⟩ := H
                      replace H : (if ((((((t175 ++ t176) ++ t177) ++ t178) ++ t179) ++ t180) ++ t181).size + t182.size ≤ 9223372036854775807 then (if x3_1.size + (((((((t175 ++ t176) ++ t177) ++ t178) ++ t179) ++ t180) ++ t181) ++ t182).size ≤ 9223372036854775807 then (spec_l10Text.l0 k1 (x3_1 ++ (((((((t175 ++ t176) ++ t177) ++ t178) ++ t179) ++ t180) ++ t181) ++ t182)) (wrap64 (x4_1 + (((rd_T111 l0_1 x5_1).f3).size : Int))) (wrap64 (x5_1 + 1)) a0_0 l0_1) else (none)) else (none)) = some r := H
                      have A22 := Aside0.mk A220
                      clear A220
                      by_cases c23 : ((((((t175 ++ t176) ++ t177) ++ t178) ++ t179) ++ t180) ++ t181).size + t182.size ≤ 9223372036854775807
                      · rw [if_pos c23] at H
                        have c23b0 := eq_true c23
                        have c23b1 : decide (((((((t175 ++ t176) ++ t177) ++ t178) ++ t179) ++ t180) ++ t181).size + t182.size ≤ 9223372036854775807) = true := decide_eq_true c23
                        try have c23b2 : (9223372036854775807 < ((((((t175 ++ t176) ++ t177) ++ t178) ++ t179) ++ t180) ++ t181).size + t182.size) = False := eq_false (Nat.not_lt.2 c23)
                        have c23b4 := c23b2
                        (try simp only [ByteArray.size_append] at c23b4)
                        by_cases c24 : x3_1.size + (((((((t175 ++ t176) ++ t177) ++ t178) ++ t179) ++ t180) ++ t181) ++ t182).size ≤ 9223372036854775807
                        · rw [if_pos c24] at H
                          have c24b0 := eq_true c24
                          have c24b1 : decide (x3_1.size + (((((((t175 ++ t176) ++ t177) ++ t178) ++ t179) ++ t180) ++ t181) ++ t182).size ≤ 9223372036854775807) = true := decide_eq_true c24
                          try have c24b2 : (9223372036854775807 < x3_1.size + (((((((t175 ++ t176) ++ t177) ++ t178) ++ t179) ++ t180) ++ t181) ++ t182).size) = False := eq_false (Nat.not_lt.2 c24)
                          have c24b4 := c24b2
                          (try simp only [ByteArray.size_append] at c24b4)
                          have H' := Aside0.mk H
                          clear H
                          have hcz25_0 : wr.cell? ⟨gb171, 0, none⟩ = some (.int .i64 a0_0) := (blk_cell BK171.out 0).trans rfl
                          have hcz25_1 : wr.cell? ⟨gb171, 1, none⟩ = some (.slice A0_1 l0_1.length c0_1) := (blk_cell BK171.out 1).trans rfl
                          have hfz25_0 := blk_frozen BK171.out 0
                          have hfz25_1 := blk_frozen BK171.out 1
                          have p173 : 0 ≤ (x5_1 : Int) := of_decide_eq_true by8
                          have q173 : x5_1 < (l0_1.length : Int) := of_decide_eq_true by8
                          obtain ⟨ad173, e173, hx173_0, hx173_1, hx173_2, hx173_3⟩ := at_T111 HR0_1.out x5_1 p173 q173
                          cases e173
                          replace hx173_0 := (HB.out.cell (World.block_lt_of_cell? w _ hx173_0)).trans hx173_0
                          replace hx173_1 := (HB.out.cell (World.block_lt_of_cell? w _ hx173_1)).trans hx173_1
                          replace hx173_2 := (HB.out.cell (World.block_lt_of_cell? w _ hx173_2)).trans hx173_2
                          replace hx173_3 := (HB.out.cell (World.block_lt_of_cell? w _ hx173_3)).trans hx173_3
                          replace p173 := eq_true p173
                          replace q173 := eq_true q173
                          try go_wp2_with (first | ((with_reducible refine gate_dst (N := 6) rfl ?_); refine box_event ?hg (N := 6) ?hd (cs := #[.int .i64 0, .int .i64 0, .int .i64 0, .string (⟨#[]⟩ : ByteArray)]) (t := 111) ?hr ?_; (case hd => rfl); (case hg => rfl); (case hr => first | (go_simp; done) | (go_simp; rfl)); intro gb174 hg w26 hbox hb; have n0_ := Aside0.mk (blk_below (g := gb171) (o := .cells #[.int .i64 a0_0, .slice (some ad173) l0_1.length c0_1] 29 (0, 0)) by30 hb); have n1_ := Aside0.mk (below_step by72 hb); have n2_ := Aside0.mk (hbox); have n3_ := Aside0.mk ((by65 : w.heap.size ≤ gb174)); have n4_ := Aside0.mk ((by65 : w.heap.size ≤ gb174)); have n5_ := Aside0.mk ((by rw [hg]; exact Nat.ne_of_lt (blk_lt (g := gb171) (o := .cells #[.int .i64 a0_0, .slice (some ad173) l0_1.length c0_1] 29 (0, 0)) by30) : gb171 ≠ gb174)); have n6_ := Aside0.mk ((by rw [hg]; exact Nat.ne_of_gt (blk_lt (g := gb171) (o := .cells #[.int .i64 a0_0, .slice (some ad173) l0_1.length c0_1] 29 (0, 0)) by30) : gb174 ≠ gb171)); clear BK171; clear HB; have BK171 := n0_; have HB := n1_; have BK174 := n2_; have GW174 := n3_; have GE174 := n4_; have NB171_174 := n5_; have NB174_171 := n6_; clear n0_ n1_ n2_ n3_ n4_ n5_ n6_; clear hb hbox hg; have hnb27 := NB174_171.out; have hnc27 := NB171_174.out; have hcz28_0 : w26.cell? ⟨gb174, 0, none⟩ = some (.int .i64 0) := (blk_cell BK174.out 0).trans rfl; have hcz28_1 : w26.cell? ⟨gb174, 1, none⟩ = some (.int .i64 0) := (blk_cell BK174.out 1).trans rfl; have hcz28_2 : w26.cell? ⟨gb174, 2, none⟩ = some (.int .i64 0) := (blk_cell BK174.out 2).trans rfl; have hcz28_3 : w26.cell? ⟨gb174, 3, none⟩ = some (.string (⟨#[]⟩ : ByteArray)) := (blk_cell BK174.out 3).trans rfl; have hfz28_0 := blk_frozen BK174.out 0; have hfz28_1 := blk_frozen BK174.out 1; have hfz28_2 := blk_frozen BK174.out 2; have hfz28_3 := blk_frozen BK174.out 3))
                          have n0_ : Aside0 (((((w26.setCell ⟨gb174, 0, none⟩ (.int .i64 ((rd_T111 l0_1 x5_1).f0))).setCell ⟨gb174, 1, none⟩ (.int .i64 ((rd_T111 l0_1 x5_1).f1))).setCell ⟨gb174, 2, none⟩ (.int .i64 ((rd_T111 l0_1 x5_1).f2))).setCell ⟨gb174, 3, none⟩ (.string ((rd_T111 l0_1 x5_1).f3))).heap[gb171]? = some (.cells #[.int .i64 a0_0, .slice (some ad173) l0_1.length c0_1] 29 (0, 0))) := ⟨by (with_reducible repeat (first | refine blk_drewN ?_ _ | refine blk_drew ?_ | refine blk_alloc ?_ _)); refine blk_far ?_ NB171_174.out _; (with_reducible repeat (first | refine blk_drewN ?_ _ | refine blk_drew ?_ | refine blk_alloc ?_ _)); refine blk_far ?_ NB171_174.out _; (with_reducible repeat (first | refine blk_drewN ?_ _ | refine blk_drew ?_ | refine blk_alloc ?_ _)); refine blk_far ?_ NB171_174.out _; (with_reducible repeat (first | refine blk_drewN ?_ _ | refine blk_drew ?_ | refine blk_alloc ?_ _)); refine blk_far ?_ NB171_174.out _; (with_reducible repeat (first | refine blk_drewN ?_ _ | refine blk_drew ?_ | refine blk_alloc ?_ _)); exact BK171.out⟩
                          have n1_ : Aside0 (((((w26.setCell ⟨gb174, 0, none⟩ (.int .i64 ((rd_T111 l0_1 x5_1).f0))).setCell ⟨gb174, 1, none⟩ (.int .i64 ((rd_T111 l0_1 x5_1).f1))).setCell ⟨gb174, 2, none⟩ (.int .i64 ((rd_T111 l0_1 x5_1).f2))).setCell ⟨gb174, 3, none⟩ (.string ((rd_T111 l0_1 x5_1).f3))).heap[gb174]? = some (.cells #[.int .i64 ((rd_T111 l0_1 x5_1).f0), .int .i64 ((rd_T111 l0_1 x5_1).f1), .int .i64 ((rd_T111 l0_1 x5_1).f2), .string ((rd_T111 l0_1 x5_1).f3)] 111 (0, 0))) := ⟨by (with_reducible repeat (first | refine blk_drewN ?_ _ | refine blk_drew ?_ | refine blk_alloc ?_ _)); refine blk_put (cs := #[.int .i64 ((rd_T111 l0_1 x5_1).f0), .int .i64 ((rd_T111 l0_1 x5_1).f1), .int .i64 ((rd_T111 l0_1 x5_1).f2), .string (⟨#[]⟩ : ByteArray)]) ?_ 3 _ rfl; (with_reducible repeat (first | refine blk_drewN ?_ _ | refine blk_drew ?_ | refine blk_alloc ?_ _)); refine blk_put (cs := #[.int .i64 ((rd_T111 l0_1 x5_1).f0), .int .i64 ((rd_T111 l0_1 x5_1).f1), .int .i64 0, .string (⟨#[]⟩ : ByteArray)]) ?_ 2 _ rfl; (with_reducible repeat (first | refine blk_drewN ?_ _ | refine blk_drew ?_ | refine blk_alloc ?_ _)); refine blk_put (cs := #[.int .i64 ((rd_T111 l0_1 x5_1).f0), .int .i64 0, .int .i64 0, .string (⟨#[]⟩ : ByteArray)]) ?_ 1 _ rfl; (with_reducible repeat (first | refine blk_drewN ?_ _ | refine blk_drew ?_ | refine blk_alloc ?_ _)); refine blk_put (cs := #[.int .i64 0, .int .i64 0, .int .i64 0, .string (⟨#[]⟩ : ByteArray)]) ?_ 0 _ rfl; (with_reducible repeat (first | refine blk_drewN ?_ _ | refine blk_drew ?_ | refine blk_alloc ?_ _)); exact BK174.out⟩
                          have n2_ : Aside0 (Below w.heap.size w ((((w26.setCell ⟨gb174, 0, none⟩ (.int .i64 ((rd_T111 l0_1 x5_1).f0))).setCell ⟨gb174, 1, none⟩ (.int .i64 ((rd_T111 l0_1 x5_1).f1))).setCell ⟨gb174, 2, none⟩ (.int .i64 ((rd_T111 l0_1 x5_1).f2))).setCell ⟨gb174, 3, none⟩ (.string ((rd_T111 l0_1 x5_1).f3)))) := ⟨by repeat (first | (with_reducible first | exact HB.out | apply below_alloc | apply pw_below_drewN | apply below_drew1 | refine below_set ?_ GE171.out | refine below_set ?_ GE174.out) | exact HB.out)⟩
                          (try clear BK171)
                          (try clear BK174)
                          (try clear HB)
                          generalize ((((w26.setCell ⟨gb174, 0, none⟩ (.int .i64 ((rd_T111 l0_1 x5_1).f0))).setCell ⟨gb174, 1, none⟩ (.int .i64 ((rd_T111 l0_1 x5_1).f1))).setCell ⟨gb174, 2, none⟩ (.int .i64 ((rd_T111 l0_1 x5_1).f2))).setCell ⟨gb174, 3, none⟩ (.string ((rd_T111 l0_1 x5_1).f3))) = w29 at n0_ n1_ n2_ ⊢
                          have BK171 := n0_
                          have BK174 := n1_
                          have HB := n2_
                          clear n0_ n1_ n2_
                          have n0_ := Aside0.mk (blk_drew BK171.out)
                          have n1_ := Aside0.mk (blk_drew BK174.out)
                          have n2_ := Aside0.mk (below_drew1 HB.out)
                          clear BK171
                          clear BK174
                          clear HB
                          have BK171 := n0_
                          have BK174 := n1_
                          have HB := n2_
                          clear n0_ n1_ n2_
                          refine start_ (n := 30) (S := fun w' => w'.cell? ⟨gb174, 0, none⟩ = some (.int .i64 ((rd_T111 l0_1 x5_1).f0)) ∧ w'.cell? ⟨gb174, 1, none⟩ = some (.int .i64 ((rd_T111 l0_1 x5_1).f1)) ∧ w'.cell? ⟨gb174, 2, none⟩ = some (.int .i64 ((rd_T111 l0_1 x5_1).f2)) ∧ w'.cell? ⟨gb174, 3, none⟩ = some (.string ((rd_T111 l0_1 x5_1).f3))) (ds := []) #[false, false, false, false, false, false, false, false, false, false, false, false, false, false, false, false, false, false, false, false, false, false, false, false, false, false, false, false, false, false] by7 rfl rfl ⟨(blk_cell BK174.out 0).trans rfl, (blk_cell BK174.out 1).trans rfl, (blk_cell BK174.out 2).trans rfl, (blk_cell BK174.out 3).trans rfl⟩ (fun hHeld => ?_); refine with_tabW spec_l10Text.tab7 spec_l10Text.bits7 (fun HT_ HW_ => ?_)
                          generalize w29.drew = w30 at BK171 BK174 HB hHeld ⊢
                          refine pure_ (i := 0) (N := some 31) (v := ?_) (a' := ?_) #[true, false, false, false, false, false, false, false, false, false, false, false, false, false, false, false, false, false, false, false, false, false, false, false, false, false, false, false, false, false] rfl rfl (any_of HT_.out by7) (fun _ _ _ h => h) (Or.inl ⟨by rfl, ?_⟩) ?_ ?_
                          rotate_left
                          · intro w'
                            go_simp
                            with_reducible rfl
                          rotate_left
                          · simp only [Act.put, List.setIfInBounds_toArray, List.set_cons_zero, List.set_cons_succ, i64_w, i32_w]
                            rfl
                          refine pure_ (i := 2) (N := some 33) (v := ?_) (a' := ?_) #[true, false, true, false, false, false, false, false, false, false, false, false, false, false, false, false, false, false, false, false, false, false, false, false, false, false, false, false, false, false] rfl rfl (any_of HT_.out by7) (fun _ _ _ h => h) (Or.inl ⟨by rfl, ?_⟩) ?_ ?_
                          rotate_left
                          · intro w'
                            go_simp
                            with_reducible rfl
                          rotate_left
                          · simp only [Act.put, List.setIfInBounds_toArray, List.set_cons_zero, List.set_cons_succ, i64_w, i32_w]
                            rfl
                          refine pure_ (i := 6) (N := some 37) (v := ?_) (a' := ?_) #[true, false, true, false, false, false, true, false, false, false, false, false, false, false, false, false, false, false, false, false, false, false, false, false, false, false, false, false, false, false] rfl rfl (any_of HT_.out by7) (fun _ _ _ h => h) (Or.inl ⟨by rfl, ?_⟩) ?_ ?_
                          rotate_left
                          · intro w'
                            go_simp
                            with_reducible rfl
                          rotate_left
                          · simp only [Act.put, List.setIfInBounds_toArray, List.set_cons_zero, List.set_cons_succ, i64_w, i32_w]
                            rfl
                          refine pure_ (i := 9) (N := some 40) (v := ?_) (a' := ?_) #[true, false, true, false, false, false, true, false, false, true, false, false, false, false, false, false, false, false, false, false, false, false, false, false, false, false, false, false, false, false] rfl rfl (any_of HT_.out by7) (fun _ _ _ h => h) (Or.inl ⟨by rfl, ?_⟩) ?_ ?_
                          rotate_left
                          · intro w'
                            go_simp
                            with_reducible rfl
                          rotate_left
                          · simp only [Act.put, List.setIfInBounds_toArray, List.set_cons_zero, List.set_cons_succ, i64_w, i32_w]
                            rfl
                          refine pure_ (i := 13) (N := some 44) (v := ?_) (a' := ?_) #[true, false, true, false, false, false, true, false, false, true, false, false, false, true, false, false, false, false, false, false, false, false, false, false, false, false, false, false, false, false] rfl rfl (any_of HT_.out by7) (fun _ _ _ h => h) (Or.inl ⟨by rfl, ?_⟩) ?_ ?_
                          rotate_left
                          · intro w'
                            go_simp
                            with_reducible rfl
                          rotate_left
                          · simp only [Act.put, List.setIfInBounds_toArray, List.set_cons_zero, List.set_cons_succ, i64_w, i32_w]
                            rfl
                          refine pure_ (i := 17) (N := some 48) (v := ?_) (a' := ?_) #[true, false, true, false, false, false, true, false, false, true, false, false, false, true, false, false, false, true, false, false, false, false, false, false, false, false, false, false, false, false] rfl rfl (any_of HT_.out by7) (fun _ _ _ h => h) (Or.inl ⟨by rfl, ?_⟩) ?_ ?_
                          rotate_left
                          · intro w'
                            go_simp
                            with_reducible rfl
                          rotate_left
                          · simp only [Act.put, List.setIfInBounds_toArray, List.set_cons_zero, List.set_cons_succ, i64_w, i32_w]
                            rfl
                          refine pure_ (i := 22) (N := some 53) (v := ?_) (a' := ?_) #[true, false, true, false, false, false, true, false, false, true, false, false, false, true, false, false, false, true, false, false, false, false, true, false, false, false, false, false, false, false] rfl rfl (any_of HT_.out by7) (fun _ _ _ h => h) (Or.inl ⟨by rfl, ?_⟩) ?_ ?_
                          rotate_left
                          · intro w'
                            go_simp
                            with_reducible rfl
                          rotate_left
                          · simp only [Act.put, List.setIfInBounds_toArray, List.set_cons_zero, List.set_cons_succ, i64_w, i32_w]
                            rfl
                          refine take_ (i := 3) (N := some 34) (v := ?_) (a' := ?_) #[true, false, true, true, false, false, true, false, false, true, false, false, false, true, false, false, false, true, false, false, false, false, true, false, false, false, false, false, false, false] rfl rfl (take_ofW HT_.out HW_.out by7) (fun _ _ _ h => h) (Or.inl ⟨by rfl, ?_⟩) hHeld ?_ ?_
                          rotate_left
                          · rintro w' ⟨s0, s1, s2, s3⟩
                            go_simp
                            with_reducible rfl
                          rotate_left
                          · simp only [Act.put, List.setIfInBounds_toArray, List.set_cons_zero, List.set_cons_succ, i64_w, i32_w]
                            rfl
                          refine take_ (i := 10) (N := some 41) (v := ?_) (a' := ?_) #[true, false, true, true, false, false, true, false, false, true, true, false, false, true, false, false, false, true, false, false, false, false, true, false, false, false, false, false, false, false] rfl rfl (take_ofW HT_.out HW_.out by7) (fun _ _ _ h => h) (Or.inl ⟨by rfl, ?_⟩) hHeld ?_ ?_
                          rotate_left
                          · rintro w' ⟨s0, s1, s2, s3⟩
                            go_simp
                            with_reducible rfl
                          rotate_left
                          · simp only [Act.put, List.setIfInBounds_toArray, List.set_cons_zero, List.set_cons_succ, i64_w, i32_w]
                            rfl
                          refine take_ (i := 14) (N := some 45) (v := ?_) (a' := ?_) #[true, false, true, true, false, false, true, false, false, true, true, false, false, true, true, false, false, true, false, false, false, false, true, false, false, false, false, false, false, false] rfl rfl (take_ofW HT_.out HW_.out by7) (fun _ _ _ h => h) (Or.inl ⟨by rfl, ?_⟩) hHeld ?_ ?_
                          rotate_left
                          · rintro w' ⟨s0, s1, s2, s3⟩
                            go_simp
                            with_reducible rfl
                          rotate_left
                          · simp only [Act.put, List.setIfInBounds_toArray, List.set_cons_zero, List.set_cons_succ, i64_w, i32_w]
                            rfl
                          refine take_ (i := 18) (N := some 49) (v := ?_) (a' := ?_) #[true, false, true, true, false, false, true, false, false, true, true, false, false, true, true, false, false, true, true, false, false, false, true, false, false, false, false, false, false, false] rfl rfl (take_ofW HT_.out HW_.out by7) (fun _ _ _ h => h) (Or.inl ⟨by rfl, ?_⟩) hHeld ?_ ?_
                          rotate_left
                          · rintro w' ⟨s0, s1, s2, s3⟩
                            go_simp
                            with_reducible rfl
                          rotate_left
                          · simp only [Act.put, List.setIfInBounds_toArray, List.set_cons_zero, List.set_cons_succ, i64_w, i32_w]
                            rfl
                          refine pure_ (i := 19) (N := some 50) (v := ?_) (a' := ?_) #[true, false, true, true, false, false, true, false, false, true, true, false, false, true, true, false, false, true, true, true, false, false, true, false, false, false, false, false, false, false] rfl rfl (any_of HT_.out by7) (fun _ _ _ h => h) (Or.inl ⟨by rfl, ?_⟩) ?_ ?_
                          rotate_left
                          · intro w'
                            go_simp
                            with_reducible rfl
                          rotate_left
                          · simp only [Act.put, List.setIfInBounds_toArray, List.set_cons_zero, List.set_cons_succ, i64_w, i32_w]
                            rfl
                          refine take_ (i := 23) (N := some 54) (v := ?_) (a' := ?_) #[true, false, true, true, false, false, true, false, false, true, true, false, false, true, true, false, false, true, true, true, false, false, true, true, false, false, false, false, false, false] rfl rfl (take_ofW HT_.out HW_.out by7) (fun _ _ _ h => h) (Or.inl ⟨by rfl, ?_⟩) hHeld ?_ ?_
                          rotate_left
                          · rintro w' ⟨s0, s1, s2, s3⟩
                            go_simp
                            with_reducible rfl
                          rotate_left
                          · simp only [Act.put, List.setIfInBounds_toArray, List.set_cons_zero, List.set_cons_succ, i64_w, i32_w]
                            rfl
                          refine one_ (i := 1) (N := some 32) #[true, true, true, true, false, false, true, false, false, true, true, false, false, true, true, false, false, true, true, true, false, false, true, true, false, false, false, false, false, false] rfl rfl (one_of HT_.out by7) (by decide) (fun K hK => ?_)
                          refine goes_ Try.func152 by7 rfl #[.int .i64 1, .int .i64 4] (by rfl) rfl rfl by2 ?_
                          with_reducible refine (spec_l01Little.calls k1 1 4 t175 _ A9.out).mono ?_
                          rintro e w31 ⟨rfl, hb⟩
                          refine ⟨_, rfl, ?_⟩
                          have n0_ := Aside0.mk (blk_below (g := gb171) (o := .cells #[.int .i64 a0_0, .slice (some ad173) l0_1.length c0_1] 29 (0, 0)) by30 hb)
                          have n1_ := Aside0.mk (blk_below (g := gb174) (o := .cells #[.int .i64 ((rd_T111 l0_1 x5_1).f0), .int .i64 ((rd_T111 l0_1 x5_1).f1), .int .i64 ((rd_T111 l0_1 x5_1).f2), .string ((rd_T111 l0_1 x5_1).f3)] 111 (0, 0)) by34 hb)
                          have n2_ := Aside0.mk (below_step by19 hb)
                          clear BK171
                          clear BK174
                          clear HB
                          have BK171 := n0_
                          have BK174 := n1_
                          have HB := n2_
                          clear n0_ n1_ n2_
                          (try clear hb)
                          (try clear hb2)
                          (try clear hk)
                          (try clear hi)
                          refine hK.out _ _ ⟨(blk_cell BK174.out 0).trans rfl, (blk_cell BK174.out 1).trans rfl, (blk_cell BK174.out 2).trans rfl, (blk_cell BK174.out 3).trans rfl⟩ (fun hHeld => ?_)
                          clear hK K
                          refine norm_ (a' := ?_) ?_ ?_
                          rotate_left
                          · show Act.put _ (some 32) _ = _
                            simp only [Act.put, List.setIfInBounds_toArray, List.set_cons_zero, List.set_cons_succ, i64_w, i32_w]
                            rfl
                          refine one_ (i := 4) (N := some 35) #[true, true, true, true, true, false, true, false, false, true, true, false, false, true, true, false, false, true, true, true, false, false, true, true, false, false, false, false, false, false] rfl rfl (one_of HT_.out by7) (by decide) (fun K hK => ?_)
                          refine goes_ Try.func152 by7 rfl #[.int .i64 ((rd_T111 l0_1 x5_1).f0), .int .i64 4] (by rfl) rfl rfl by2 ?_
                          with_reducible refine (spec_l01Little.calls k1 ((rd_T111 l0_1 x5_1).f0) 4 t176 _ A10.out).mono ?_
                          rintro e w32 ⟨rfl, hb⟩
                          refine ⟨_, rfl, ?_⟩
                          have n0_ := Aside0.mk (blk_below (g := gb171) (o := .cells #[.int .i64 a0_0, .slice (some ad173) l0_1.length c0_1] 29 (0, 0)) by30 hb)
                          have n1_ := Aside0.mk (blk_below (g := gb174) (o := .cells #[.int .i64 ((rd_T111 l0_1 x5_1).f0), .int .i64 ((rd_T111 l0_1 x5_1).f1), .int .i64 ((rd_T111 l0_1 x5_1).f2), .string ((rd_T111 l0_1 x5_1).f3)] 111 (0, 0)) by34 hb)
                          have n2_ := Aside0.mk (below_step by19 hb)
                          clear BK171
                          clear BK174
                          clear HB
                          have BK171 := n0_
                          have BK174 := n1_
                          have HB := n2_
                          clear n0_ n1_ n2_
                          (try clear hb)
                          (try clear hb2)
                          (try clear hk)
                          (try clear hi)
                          refine hK.out _ _ ⟨(blk_cell BK174.out 0).trans rfl, (blk_cell BK174.out 1).trans rfl, (blk_cell BK174.out 2).trans rfl, (blk_cell BK174.out 3).trans rfl⟩ (fun hHeld => ?_)
                          clear hK K
                          refine norm_ (a' := ?_) ?_ ?_
                          rotate_left
                          · show Act.put _ (some 35) _ = _
                            simp only [Act.put, List.setIfInBounds_toArray, List.set_cons_zero, List.set_cons_succ, i64_w, i32_w]
                            rfl
                          refine pure_ (i := 5) (N := some 36) (v := ?_) (a' := ?_) #[true, true, true, true, true, true, true, false, false, true, true, false, false, true, true, false, false, true, true, true, false, false, true, true, false, false, false, false, false, false] rfl rfl (any_of HT_.out by7) (fun _ _ _ h => h) (Or.inl ⟨by rfl, ?_⟩) ?_ ?_
                          rotate_left
                          · intro w'
                            go_simp
                            with_reducible rfl
                          rotate_left
                          · simp only [Act.put, List.setIfInBounds_toArray, List.set_cons_zero, List.set_cons_succ, i64_w, i32_w]
                            rfl
                          refine one_ (i := 7) (N := some 38) #[true, true, true, true, true, true, true, true, false, true, true, false, false, true, true, false, false, true, true, true, false, false, true, true, false, false, false, false, false, false] rfl rfl (one_of HT_.out by7) (by decide) (fun K hK => ?_)
                          refine goes_ Try.func152 by7 rfl #[.int .i64 x4_1, .int .i64 8] (by rfl) rfl rfl by2 ?_
                          with_reducible refine (spec_l01Little.calls k1 x4_1 8 t177 _ A12.out).mono ?_
                          rintro e w33 ⟨rfl, hb⟩
                          refine ⟨_, rfl, ?_⟩
                          have n0_ := Aside0.mk (blk_below (g := gb171) (o := .cells #[.int .i64 a0_0, .slice (some ad173) l0_1.length c0_1] 29 (0, 0)) by30 hb)
                          have n1_ := Aside0.mk (blk_below (g := gb174) (o := .cells #[.int .i64 ((rd_T111 l0_1 x5_1).f0), .int .i64 ((rd_T111 l0_1 x5_1).f1), .int .i64 ((rd_T111 l0_1 x5_1).f2), .string ((rd_T111 l0_1 x5_1).f3)] 111 (0, 0)) by34 hb)
                          have n2_ := Aside0.mk (below_step by19 hb)
                          clear BK171
                          clear BK174
                          clear HB
                          have BK171 := n0_
                          have BK174 := n1_
                          have HB := n2_
                          clear n0_ n1_ n2_
                          (try clear hb)
                          (try clear hb2)
                          (try clear hk)
                          (try clear hi)
                          refine hK.out _ _ ⟨(blk_cell BK174.out 0).trans rfl, (blk_cell BK174.out 1).trans rfl, (blk_cell BK174.out 2).trans rfl, (blk_cell BK174.out 3).trans rfl⟩ (fun hHeld => ?_)
                          clear hK K
                          refine norm_ (a' := ?_) ?_ ?_
                          rotate_left
                          · show Act.put _ (some 38) _ = _
                            simp only [Act.put, List.setIfInBounds_toArray, List.set_cons_zero, List.set_cons_succ, i64_w, i32_w]
                            rfl
                          refine pure_ (i := 8) (N := some 39) (v := ?_) (a' := ?_) #[true, true, true, true, true, true, true, true, true, true, true, false, false, true, true, false, false, true, true, true, false, false, true, true, false, false, false, false, false, false] rfl rfl (any_of HT_.out by7) (fun _ _ _ h => h) (Or.inl ⟨by rfl, ?_⟩) ?_ ?_
                          rotate_left
                          · intro w'
                            go_simp
                            with_reducible rfl
                          rotate_left
                          · simp only [Act.put, List.setIfInBounds_toArray, List.set_cons_zero, List.set_cons_succ, i64_w, i32_w]
                            rfl
                          refine one_ (i := 11) (N := some 42) #[true, true, true, true, true, true, true, true, true, true, true, true, false, true, true, false, false, true, true, true, false, false, true, true, false, false, false, false, false, false] rfl rfl (one_of HT_.out by7) (by decide) (fun K hK => ?_)
                          refine goes_ Try.func152 by7 rfl #[.int .i64 ((rd_T111 l0_1 x5_1).f1), .int .i64 8] (by rfl) rfl rfl by2 ?_
                          with_reducible refine (spec_l01Little.calls k1 ((rd_T111 l0_1 x5_1).f1) 8 t178 _ A14.out).mono ?_
                          rintro e w34 ⟨rfl, hb⟩
                          refine ⟨_, rfl, ?_⟩
                          have n0_ := Aside0.mk (blk_below (g := gb171) (o := .cells #[.int .i64 a0_0, .slice (some ad173) l0_1.length c0_1] 29 (0, 0)) by30 hb)
                          have n1_ := Aside0.mk (blk_below (g := gb174) (o := .cells #[.int .i64 ((rd_T111 l0_1 x5_1).f0), .int .i64 ((rd_T111 l0_1 x5_1).f1), .int .i64 ((rd_T111 l0_1 x5_1).f2), .string ((rd_T111 l0_1 x5_1).f3)] 111 (0, 0)) by34 hb)
                          have n2_ := Aside0.mk (below_step by19 hb)
                          clear BK171
                          clear BK174
                          clear HB
                          have BK171 := n0_
                          have BK174 := n1_
                          have HB := n2_
                          clear n0_ n1_ n2_
                          (try clear hb)
                          (try clear hb2)
                          (try clear hk)
                          (try clear hi)
                          refine hK.out _ _ ⟨(blk_cell BK174.out 0).trans rfl, (blk_cell BK174.out 1).trans rfl, (blk_cell BK174.out 2).trans rfl, (blk_cell BK174.out 3).trans rfl⟩ (fun hHeld => ?_)
                          clear hK K
                          refine norm_ (a' := ?_) ?_ ?_
                          rotate_left
                          · show Act.put _ (some 42) _ = _
                            simp only [Act.put, List.setIfInBounds_toArray, List.set_cons_zero, List.set_cons_succ, i64_w, i32_w]
                            rfl
                          refine pure_ (i := 12) (N := some 43) (v := ?_) (a' := ?_) #[true, true, true, true, true, true, true, true, true, true, true, true, true, true, true, false, false, true, true, true, false, false, true, true, false, false, false, false, false, false] rfl rfl (any_of HT_.out by7) (fun _ _ _ h => h) (Or.inl ⟨by rfl, ?_⟩) ?_ ?_
                          rotate_left
                          · intro w'
                            go_simp
                            with_reducible rfl
                          rotate_left
                          · simp only [Act.put, List.setIfInBounds_toArray, List.set_cons_zero, List.set_cons_succ, i64_w, i32_w]
                            rfl
                          refine one_ (i := 15) (N := some 46) #[true, true, true, true, true, true, true, true, true, true, true, true, true, true, true, true, false, true, true, true, false, false, true, true, false, false, false, false, false, false] rfl rfl (one_of HT_.out by7) (by decide) (fun K hK => ?_)
                          refine goes_ Try.func152 by7 rfl #[.int .i64 ((rd_T111 l0_1 x5_1).f1), .int .i64 8] (by rfl) rfl rfl by2 ?_
                          with_reducible refine (spec_l01Little.calls k1 ((rd_T111 l0_1 x5_1).f1) 8 t179 _ A16.out).mono ?_
                          rintro e w35 ⟨rfl, hb⟩
                          refine ⟨_, rfl, ?_⟩
                          have n0_ := Aside0.mk (blk_below (g := gb171) (o := .cells #[.int .i64 a0_0, .slice (some ad173) l0_1.length c0_1] 29 (0, 0)) by30 hb)
                          have n1_ := Aside0.mk (blk_below (g := gb174) (o := .cells #[.int .i64 ((rd_T111 l0_1 x5_1).f0), .int .i64 ((rd_T111 l0_1 x5_1).f1), .int .i64 ((rd_T111 l0_1 x5_1).f2), .string ((rd_T111 l0_1 x5_1).f3)] 111 (0, 0)) by34 hb)
                          have n2_ := Aside0.mk (below_step by19 hb)
                          clear BK171
                          clear BK174
                          clear HB
                          have BK171 := n0_
                          have BK174 := n1_
                          have HB := n2_
                          clear n0_ n1_ n2_
                          (try clear hb)
                          (try clear hb2)
                          (try clear hk)
                          (try clear hi)
                          refine hK.out _ _ ⟨(blk_cell BK174.out 0).trans rfl, (blk_cell BK174.out 1).trans rfl, (blk_cell BK174.out 2).trans rfl, (blk_cell BK174.out 3).trans rfl⟩ (fun hHeld => ?_)
                          clear hK K
                          refine norm_ (a' := ?_) ?_ ?_
                          rotate_left
                          · show Act.put _ (some 46) _ = _
                            simp only [Act.put, List.setIfInBounds_toArray, List.set_cons_zero, List.set_cons_succ, i64_w, i32_w]
                            rfl
                          refine pure_ (i := 16) (N := some 47) (v := ?_) (a' := ?_) #[true, true, true, true, true, true, true, true, true, true, true, true, true, true, true, true, true, true, true, true, false, false, true, true, false, false, false, false, false, false] rfl rfl (any_of HT_.out by7) (fun _ _ _ h => h) (Or.inl ⟨by rfl, ?_⟩) ?_ ?_
                          rotate_left
                          · intro w'
                            go_simp
                            with_reducible rfl
                          rotate_left
                          · simp only [Act.put, List.setIfInBounds_toArray, List.set_cons_zero, List.set_cons_succ, i64_w, i32_w]
                            rfl
                          refine one_ (i := 20) (N := some 51) #[true, true, true, true, true, true, true, true, true, true, true, true, true, true, true, true, true, true, true, true, true, false, true, true, false, false, false, false, false, false] rfl rfl (one_of HT_.out by7) (by decide) (fun K hK => ?_)
                          refine goes_ Try.func152 by7 rfl #[.int .i64 (((rd_T111 l0_1 x5_1).f3).size : Int), .int .i64 8] (by rfl) rfl rfl by2 ?_
                          with_reducible refine (spec_l01Little.calls k1 (((rd_T111 l0_1 x5_1).f3).size : Int) 8 t180 _ A18.out).mono ?_
                          rintro e w36 ⟨rfl, hb⟩
                          refine ⟨_, rfl, ?_⟩
                          have n0_ := Aside0.mk (blk_below (g := gb171) (o := .cells #[.int .i64 a0_0, .slice (some ad173) l0_1.length c0_1] 29 (0, 0)) by30 hb)
                          have n1_ := Aside0.mk (blk_below (g := gb174) (o := .cells #[.int .i64 ((rd_T111 l0_1 x5_1).f0), .int .i64 ((rd_T111 l0_1 x5_1).f1), .int .i64 ((rd_T111 l0_1 x5_1).f2), .string ((rd_T111 l0_1 x5_1).f3)] 111 (0, 0)) by34 hb)
                          have n2_ := Aside0.mk (below_step by19 hb)
                          clear BK171
                          clear BK174
                          clear HB
                          have BK171 := n0_
                          have BK174 := n1_
                          have HB := n2_
                          clear n0_ n1_ n2_
                          (try clear hb)
                          (try clear hb2)
                          (try clear hk)
                          (try clear hi)
                          refine hK.out _ _ ⟨(blk_cell BK174.out 0).trans rfl, (blk_cell BK174.out 1).trans rfl, (blk_cell BK174.out 2).trans rfl, (blk_cell BK174.out 3).trans rfl⟩ (fun hHeld => ?_)
                          clear hK K
                          refine norm_ (a' := ?_) ?_ ?_
                          rotate_left
                          · show Act.put _ (some 51) _ = _
                            simp only [Act.put, List.setIfInBounds_toArray, List.set_cons_zero, List.set_cons_succ, i64_w, i32_w]
                            rfl
                          refine pure_ (i := 21) (N := some 52) (v := ?_) (a' := ?_) #[true, true, true, true, true, true, true, true, true, true, true, true, true, true, true, true, true, true, true, true, true, true, true, true, false, false, false, false, false, false] rfl rfl (any_of HT_.out by7) (fun _ _ _ h => h) (Or.inl ⟨by rfl, ?_⟩) ?_ ?_
                          rotate_left
                          · intro w'
                            go_simp
                            with_reducible rfl
                          rotate_left
                          · simp only [Act.put, List.setIfInBounds_toArray, List.set_cons_zero, List.set_cons_succ, i64_w, i32_w]
                            rfl
                          refine one_ (i := 24) (N := some 55) #[true, true, true, true, true, true, true, true, true, true, true, true, true, true, true, true, true, true, true, true, true, true, true, true, true, false, false, false, false, false] rfl rfl (one_of HT_.out by7) (by decide) (fun K hK => ?_)
                          refine goes_ Try.func152 by7 rfl #[.int .i64 ((rd_T111 l0_1 x5_1).f2), .int .i64 8] (by rfl) rfl rfl by2 ?_
                          with_reducible refine (spec_l01Little.calls k1 ((rd_T111 l0_1 x5_1).f2) 8 t181 _ A20.out).mono ?_
                          rintro e w37 ⟨rfl, hb⟩
                          refine ⟨_, rfl, ?_⟩
                          have n0_ := Aside0.mk (blk_below (g := gb171) (o := .cells #[.int .i64 a0_0, .slice (some ad173) l0_1.length c0_1] 29 (0, 0)) by30 hb)
                          have n1_ := Aside0.mk (blk_below (g := gb174) (o := .cells #[.int .i64 ((rd_T111 l0_1 x5_1).f0), .int .i64 ((rd_T111 l0_1 x5_1).f1), .int .i64 ((rd_T111 l0_1 x5_1).f2), .string ((rd_T111 l0_1 x5_1).f3)] 111 (0, 0)) by34 hb)
                          have n2_ := Aside0.mk (below_step by19 hb)
                          clear BK171
                          clear BK174
                          clear HB
                          have BK171 := n0_
                          have BK174 := n1_
                          have HB := n2_
                          clear n0_ n1_ n2_
                          (try clear hb)
                          (try clear hb2)
                          (try clear hk)
                          (try clear hi)
                          refine hK.out _ _ ⟨(blk_cell BK174.out 0).trans rfl, (blk_cell BK174.out 1).trans rfl, (blk_cell BK174.out 2).trans rfl, (blk_cell BK174.out 3).trans rfl⟩ (fun hHeld => ?_)
                          clear hK K
                          refine norm_ (a' := ?_) ?_ ?_
                          rotate_left
                          · show Act.put _ (some 55) _ = _
                            simp only [Act.put, List.setIfInBounds_toArray, List.set_cons_zero, List.set_cons_succ, i64_w, i32_w]
                            rfl
                          refine pure_ (i := 25) (N := some 56) (v := ?_) (a' := ?_) #[true, true, true, true, true, true, true, true, true, true, true, true, true, true, true, true, true, true, true, true, true, true, true, true, true, true, false, false, false, false] rfl rfl (any_of HT_.out by7) (fun _ _ _ h => h) (Or.inl ⟨by rfl, ?_⟩) ?_ ?_
                          rotate_left
                          · intro w'
                            go_simp
                            with_reducible rfl
                          rotate_left
                          · simp only [Act.put, List.setIfInBounds_toArray, List.set_cons_zero, List.set_cons_succ, i64_w, i32_w]
                            rfl
                          refine one_ (i := 26) (N := some 57) #[true, true, true, true, true, true, true, true, true, true, true, true, true, true, true, true, true, true, true, true, true, true, true, true, true, true, true, false, false, false] rfl rfl (one_of HT_.out by7) (by decide) (fun K hK => ?_)
                          refine goes_ Try.func152 by7 rfl #[.int .i64 256, .int .i64 8] (by rfl) rfl rfl by2 ?_
                          with_reducible refine (spec_l01Little.calls k1 256 8 t182 _ A22.out).mono ?_
                          rintro e w38 ⟨rfl, hb⟩
                          refine ⟨_, rfl, ?_⟩
                          have n0_ := Aside0.mk (blk_below (g := gb171) (o := .cells #[.int .i64 a0_0, .slice (some ad173) l0_1.length c0_1] 29 (0, 0)) by30 hb)
                          have n1_ := Aside0.mk (blk_below (g := gb174) (o := .cells #[.int .i64 ((rd_T111 l0_1 x5_1).f0), .int .i64 ((rd_T111 l0_1 x5_1).f1), .int .i64 ((rd_T111 l0_1 x5_1).f2), .string ((rd_T111 l0_1 x5_1).f3)] 111 (0, 0)) by34 hb)
                          have n2_ := Aside0.mk (below_step by19 hb)
                          clear BK171
                          clear BK174
                          clear HB
                          have BK171 := n0_
                          have BK174 := n1_
                          have HB := n2_
                          clear n0_ n1_ n2_
                          (try clear hb)
                          (try clear hb2)
                          (try clear hk)
                          (try clear hi)
                          refine hK.out _ _ ⟨(blk_cell BK174.out 0).trans rfl, (blk_cell BK174.out 1).trans rfl, (blk_cell BK174.out 2).trans rfl, (blk_cell BK174.out 3).trans rfl⟩ (fun hHeld => ?_)
                          clear hK K
                          refine norm_ (a' := ?_) ?_ ?_
                          rotate_left
                          · show Act.put _ (some 57) _ = _
                            simp only [Act.put, List.setIfInBounds_toArray, List.set_cons_zero, List.set_cons_succ, i64_w, i32_w]
                            rfl
                          refine pure_ (i := 27) (N := some 58) (v := ?_) (a' := ?_) #[true, true, true, true, true, true, true, true, true, true, true, true, true, true, true, true, true, true, true, true, true, true, true, true, true, true, true, true, false, false] rfl rfl (any_of HT_.out by7) (fun _ _ _ h => h) (Or.inl ⟨by rfl, ?_⟩) ?_ ?_
                          rotate_left
                          · intro w'
                            go_simp
                            with_reducible rfl
                          rotate_left
                          · simp only [Act.put, List.setIfInBounds_toArray, List.set_cons_zero, List.set_cons_succ, i64_w, i32_w]
                            rfl
                          refine pure_ (i := 28) (N := some 59) (v := ?_) (a' := ?_) #[true, true, true, true, true, true, true, true, true, true, true, true, true, true, true, true, true, true, true, true, true, true, true, true, true, true, true, true, true, false] rfl rfl (any_of HT_.out by7) (fun _ _ _ h => h) (Or.inl ⟨by rfl, ?_⟩) ?_ ?_
                          rotate_left
                          · intro w'
                            go_simp
                            with_reducible rfl
                          rotate_left
                          · simp only [Act.put, List.setIfInBounds_toArray, List.set_cons_zero, List.set_cons_succ, i64_w, i32_w]
                            rfl
                          refine pure_ (i := 29) (N := some 3) (v := ?_) (a' := ?_) #[true, true, true, true, true, true, true, true, true, true, true, true, true, true, true, true, true, true, true, true, true, true, true, true, true, true, true, true, true, true] rfl rfl (any_of HT_.out by7) (fun _ _ _ h => h) (Or.inl ⟨by rfl, ?_⟩) ?_ ?_
                          rotate_left
                          · intro w'
                            go_simp
                            with_reducible rfl
                          rotate_left
                          · simp only [Act.put, List.setIfInBounds_toArray, List.set_cons_zero, List.set_cons_succ, i64_w, i32_w]
                            rfl
                          refine done_ (done_of HT_.out by7) ?_
                          have hcz39_0 : w38.cell? ⟨gb174, 0, none⟩ = some (.int .i64 ((rd_T111 l0_1 x5_1).f0)) := (blk_cell BK174.out 0).trans rfl
                          have hcz39_1 : w38.cell? ⟨gb174, 1, none⟩ = some (.int .i64 ((rd_T111 l0_1 x5_1).f1)) := (blk_cell BK174.out 1).trans rfl
                          have hcz39_2 : w38.cell? ⟨gb174, 2, none⟩ = some (.int .i64 ((rd_T111 l0_1 x5_1).f2)) := (blk_cell BK174.out 2).trans rfl
                          have hcz39_3 : w38.cell? ⟨gb174, 3, none⟩ = some (.string ((rd_T111 l0_1 x5_1).f3)) := (blk_cell BK174.out 3).trans rfl
                          have hfz39_0 := blk_frozen BK174.out 0
                          have hfz39_1 := blk_frozen BK174.out 1
                          have hfz39_2 := blk_frozen BK174.out 2
                          have hfz39_3 := blk_frozen BK174.out 3
                          try go_wp2
                          go_roundg k1
                          case measure => have := HK1.out; omega
                          case rel => exact ⟨(x3_1 ++ (((((((t175 ++ t176) ++ t177) ++ t178) ++ t179) ++ t180) ++ t181) ++ t182)), (wrap64 (x4_1 + (((rd_T111 l0_1 x5_1).f3).size : Int))), (wrap64 (x5_1 + 1)), by9, by9, by9, H', ⟨by have := HK1.out; omega⟩, ⟨by (with_reducible repeat (first | refine blk_drewN ?_ _ | refine blk_drew ?_ | refine blk_alloc ?_ _)); exact BK171.out⟩, ⟨by repeat (first | (with_reducible first | exact HB.out | apply below_alloc | apply pw_below_drewN | apply below_drew1 | refine below_set ?_ GE171.out | refine below_set ?_ GE174.out) | exact HB.out)⟩⟩
                        · rw [if_neg c24] at H
                          exact absurd H (by simp)
                      · rw [if_neg c23] at H
                        exact absurd H (by simp)
                    · rw [if_neg c21] at H
                      exact absurd H (by simp)
                  · rw [if_neg c19] at H
                    exact absurd H (by simp)
                · rw [if_neg c17] at H
                  exact absurd H (by simp)
              · rw [if_neg c15] at H
                exact absurd H (by simp)
            · rw [if_neg c13] at H
              exact absurd H (by simp)
          · rw [if_neg c11] at H
            exact absurd H (by simp)
        · rw [if_neg c8] at H
          exact absurd H (by simp)
      · rw [if_neg c7] at H
        have c7b0 : decide (x5_1 < (l0_1.length : Int)) = false := decide_eq_false c7
        clear c7
        have H' := Aside0.mk H
        clear H
        have hcz40_0 : wr.cell? ⟨gb171, 0, none⟩ = some (.int .i64 a0_0) := (blk_cell BK171.out 0).trans rfl
        have hcz40_1 : wr.cell? ⟨gb171, 1, none⟩ = some (.slice A0_1 l0_1.length c0_1) := (blk_cell BK171.out 1).trans rfl
        have hfz40_0 := blk_frozen BK171.out 0
        have hfz40_1 := blk_frozen BK171.out 1
        go_wp2
        go_loopg [3, 7] k1 (fun kq v3 v7 w' => ∃ (x3_2 : ByteArray) (x7_2 : Int), v3 = .string x3_2 ∧ v7 = .int .i64 x7_2 ∧ Aside0 (spec_l10Text.l1 kq x3_2 x7_2 a0_0 l0_1 = some r) ∧ Aside0 (kq ≤ k1) ∧ Aside0 (w'.heap[gb171]? = some (.cells #[.int .i64 a0_0, (.slice A0_1 l0_1.length c0_1)] 29 (0, 0))) ∧ Aside0 (Below w.heap.size w w'))
        case atStart => exact ⟨(x3_1), (0), by9, by9, H', ⟨Nat.le_refl _⟩, ⟨by (with_reducible repeat (first | refine blk_drewN ?_ _ | refine blk_drew ?_ | refine blk_alloc ?_ _)); exact BK171.out⟩, ⟨by repeat (first | (with_reducible first | exact HB.out | apply below_alloc | apply pw_below_drewN | apply below_drew1 | refine below_set ?_ GE171.out) | exact HB.out)⟩⟩
        case round =>
          clear H'
          try clear c1
          try clear p1
          try clear q1
          try clear hx1
          try clear c2
          try clear p2
          try clear p6
          try clear c7
          try clear c7b0
          try clear c8
          try clear c8b0
          try clear c11
          try clear c11b0
          try clear c11b1
          try clear c11b2
          try clear c13
          try clear c13b0
          try clear c13b1
          try clear c13b2
          try clear c15
          try clear c15b0
          try clear c15b1
          try clear c15b2
          try clear c17
          try clear c17b0
          try clear c17b1
          try clear c17b2
          try clear p17
          try clear q17
          try clear hx17
          try clear c19
          try clear c19b0
          try clear c19b1
          try clear c19b2
          try clear c21
          try clear c21b0
          try clear c21b1
          try clear c21b2
          try clear c23
          try clear c23b0
          try clear c23b1
          try clear c23b2
          try clear c24
          try clear c24b0
          try clear c24b1
          try clear c24b2
          try clear c27
          try clear hcz25_0
          try clear hcz25_1
          try clear hcz28_0
          try clear hcz28_1
          try clear hcz28_2
          try clear hcz28_3
          try clear hcz39_0
          try clear hcz39_1
          try clear hcz39_2
          try clear hcz39_3
          try clear hcz40_0
          try clear hcz40_1
          try clear hcz4_0
          try clear hcz4_1
          try clear hcz6_0
          try clear hcz6_1
          try clear hfz25_0
          try clear hfz25_1
          try clear hfz28_0
          try clear hfz28_1
          try clear hfz28_2
          try clear hfz28_3
          try clear hfz39_0
          try clear hfz39_1
          try clear hfz39_2
          try clear hfz39_3
          try clear hfz40_0
          try clear hfz40_1
          try clear hfz4_0
          try clear hfz4_1
          try clear hfz6_0
          try clear hfz6_1
          try clear hx173_0
          try clear hx173_1
          try clear hx173_2
          try clear hx173_3
          try clear p173
          try clear p2
          try clear p6
          try clear q173
          obtain ⟨x3_2, x7_2, rfl, rfl, HA, HK2, BK171, HB⟩ := hrel
          cases gk with
          | zero => exact absurd HA.out (by simp [spec_l10Text.l1])
          | succ k2 =>
            have H := HA.out
            clear HA
            simp only [spec_l10Text.l1] at H
            by_cases c41 : x7_2 < (l0_1.length : Int)
            · rw [if_pos c41] at H
              have c41b0 : decide (x7_2 < (l0_1.length : Int)) = true := decide_eq_true c41
              clear c41
              by_cases c42 : 0 ≤ x7_2
              · rw [if_pos c42] at H
                have c42b0 : decide (0 ≤ x7_2) = true := decide_eq_true c42
                clear c42
                by_cases c43 : x3_2.size + ((rd_T111 l0_1 x7_2).f3).size ≤ 9223372036854775807
                · rw [if_pos c43] at H
                  have c43b0 := eq_true c43
                  have c43b1 : decide (x3_2.size + ((rd_T111 l0_1 x7_2).f3).size ≤ 9223372036854775807) = true := decide_eq_true c43
                  try have c43b2 : (9223372036854775807 < x3_2.size + ((rd_T111 l0_1 x7_2).f3).size) = False := eq_false (Nat.not_lt.2 c43)
                  have H' := Aside0.mk H
                  clear H
                  have hcz44_0 : wr.cell? ⟨gb171, 0, none⟩ = some (.int .i64 a0_0) := (blk_cell BK171.out 0).trans rfl
                  have hcz44_1 : wr.cell? ⟨gb171, 1, none⟩ = some (.slice A0_1 l0_1.length c0_1) := (blk_cell BK171.out 1).trans rfl
                  have hfz44_0 := blk_frozen BK171.out 0
                  have hfz44_1 := blk_frozen BK171.out 1
                  have p183 : 0 ≤ (x7_2 : Int) := of_decide_eq_true by8
                  have q183 : x7_2 < (l0_1.length : Int) := of_decide_eq_true by8
                  obtain ⟨ad183, e183, hx183_0, hx183_1, hx183_2, hx183_3⟩ := at_T111 HR0_1.out x7_2 p183 q183
                  cases e183
                  replace hx183_0 := (HB.out.cell (World.block_lt_of_cell? w _ hx183_0)).trans hx183_0
                  replace hx183_1 := (HB.out.cell (World.block_lt_of_cell? w _ hx183_1)).trans hx183_1
                  replace hx183_2 := (HB.out.cell (World.block_lt_of_cell? w _ hx183_2)).trans hx183_2
                  replace hx183_3 := (HB.out.cell (World.block_lt_of_cell? w _ hx183_3)).trans hx183_3
                  replace p183 := eq_true p183
                  replace q183 := eq_true q183
                  go_wp2
                  go_roundg k2
                  case measure => have := HK1.out; have := HK2.out; omega
                  case rel => exact ⟨(x3_2 ++ ((rd_T111 l0_1 x7_2).f3)), (wrap64 (x7_2 + 1)), by9, by9, H', ⟨by have := HK1.out; have := HK2.out; omega⟩, ⟨by (with_reducible repeat (first | refine blk_drewN ?_ _ | refine blk_drew ?_ | refine blk_alloc ?_ _)); exact BK171.out⟩, ⟨by repeat (first | (with_reducible first | exact HB.out | apply below_alloc | apply pw_below_drewN | apply below_drew1 | refine below_set ?_ GE171.out) | exact HB.out)⟩⟩
                · rw [if_neg c43] at H
                  exact absurd H (by simp)
              · rw [if_neg c42] at H
                exact absurd H (by simp)
            · rw [if_neg c41] at H
              have c41b0 : decide (x7_2 < (l0_1.length : Int)) = false := decide_eq_false c41
              clear c41
              obtain rfl := Option.some.inj H
              have hcz45_0 : wr.cell? ⟨gb171, 0, none⟩ = some (.int .i64 a0_0) := (blk_cell BK171.out 0).trans rfl
              have hcz45_1 : wr.cell? ⟨gb171, 1, none⟩ = some (.slice A0_1 l0_1.length c0_1) := (blk_cell BK171.out 1).trans rfl
              have hfz45_0 := blk_frozen BK171.out 0
              have hfz45_1 := blk_frozen BK171.out 1
              go_wp2
              go_ret
              exact ⟨by first | rfl | (simp [errW_none, errW_some] <;> rfl) | (simp [*, errW_none, errW_some] <;> rfl), by repeat (first | (with_reducible first | exact HB.out | apply below_alloc | apply pw_below_drewN | apply below_drew1 | refine below_set ?_ GE171.out) | exact HB.out)⟩

/-! ### spec_ElfText: function 48 -/
def spec_ElfText.f (k : Nat) (a0_0 : Int) (l0_1 : List (S111)) : Option (ByteArray × Int) := (spec_ImageOK.f k a0_0 l0_1).bind fun t185 => (if t185 = true then ((spec_l10Text.f k a0_0 l0_1).bind fun t186 => (some (t186, 0))) else (some ((⟨#[]⟩ : ByteArray), 1)))
theorem spec_ElfText.mono : ∀ a0 a1 k, LeO (spec_ElfText.f k a0 a1) (spec_ElfText.f (k + 1) a0 a1) := by
  intro a0 a1 k
  unfold spec_ElfText.f
  repeat' first
      | (with_reducible exact spec_ImageOK.mono _ _ _)
      | (with_reducible exact spec_l10Text.mono _ _ _)
      | (with_reducible exact LeO.refl _)
      | (with_reducible exact LeO.none _)
      | (with_reducible refine LeO.ite ?_ ?_)
      | (with_reducible refine LeO.bind ?_ (fun _ => ?_))
      | exact spec_ImageOK.mono _ _ _
      | exact spec_l10Text.mono _ _ _
      | exact LeO.none _
      | refine LeO.ite ?_ ?_
      | refine LeO.bind ?_ (fun _ => ?_)
set_option maxHeartbeats 8000000 in
set_option maxRecDepth 100000 in
theorem spec_ElfText.calls (k : Nat) (a0_0 : Int) (A0_1 : Option Addr) (c0_1 : Nat) (l0_1 : List (S111)) (r1 : ByteArray) (r2 : Int) (w : World) (hr0_1 : Kd.C k111 w A0_1 l0_1.length l0_1) (hc0_1 : l0_1.length ≤ c0_1) (h : spec_ElfText.f k a0_0 l0_1 = some (r1, r2)) :
    Calls Try.prog 48 #[.agg #[.int .i64 a0_0, .slice A0_1 l0_1.length c0_1]] w fun e w' => e = .returned (.tuple #[.string r1, .int .i64 r2]) ∧ Below w.heap.size w w' := by
  have hu29 := Try.underlying29
  have HR0_1 := Aside0.mk hr0_1
  have HC0_1 := Aside0.mk hc0_1
  clear hr0_1 hc0_1
  have HB := Aside0.mk (Below.refl w.heap.size w)
  have H : ((spec_ImageOK.f k a0_0 l0_1).bind fun t185 => (if t185 = true then ((spec_l10Text.f k a0_0 l0_1).bind fun t186 => (some (t186, 0))) else (some ((⟨#[]⟩ : ByteArray), 1)))) = some (r1, r2) := h
  clear h
  replace H := Option.bind_eq_some_iff.mp H
  obtain ⟨t185, A20, H⟩ := H
  replace H : (if t185 = true then ((spec_l10Text.f k a0_0 l0_1).bind fun t186 => (some (t186, 0))) else (some ((⟨#[]⟩ : ByteArray), 1))) = some (r1, r2) := H
  have A2 := Aside0.mk A20
  clear A20
  by_cases c3 : t185 = true
  · subst c3
    have H1 : ((spec_l10Text.f k a0_0 l0_1).bind fun t186 => (some (t186, 0))) = some (r1, r2) := by rw [if_pos rfl] at H; exact H
    clear H
    have H := H1
    clear H1
    replace H := Option.bind_eq_some_iff.mp H
    obtain ⟨t186, A40, H⟩ := H
    replace H : (some (t186, 0)) = some (r1, r2) := H
    have A4 := Aside0.mk A40
    clear A40
    simp only [Option.some.injEq, Prod.mk.injEq] at H
    obtain ⟨rfl, rfl⟩ := H
    go_enter Try.func48, Try.ntmps48
    go_wp2_with (first | ((with_reducible refine gate_dst (N := 1) rfl ?_); refine box_event ?hg (N := 1) ?hd (cs := #[.int .i64 a0_0, .slice A0_1 l0_1.length c0_1]) (t := 29) ?hr ?_; (case hd => rfl); (case hg => rfl); (case hr => first | (go_simp; done) | (go_simp; rfl)); intro gb184 hg w5 hbox hb; have n0_ := Aside0.mk (below_step by1 hb); have n1_ := Aside0.mk (hbox); have n2_ := Aside0.mk ((by0 : w.heap.size ≤ gb184)); have n3_ := Aside0.mk ((by0 : w.heap.size ≤ gb184)); clear HB; have HB := n0_; have BK184 := n1_; have GW184 := n2_; have GE184 := n3_; clear n0_ n1_ n2_ n3_; clear hb hbox hg; have hcz6_0 : w5.cell? ⟨gb184, 0, none⟩ = some (.int .i64 a0_0) := (blk_cell BK184.out 0).trans rfl; have hcz6_1 : w5.cell? ⟨gb184, 1, none⟩ = some (.slice A0_1 l0_1.length c0_1) := (blk_cell BK184.out 1).trans rfl; have hfz6_0 := blk_frozen BK184.out 0; have hfz6_1 := blk_frozen BK184.out 1) | ((with_reducible refine gate_callee (f := 73) rfl ?_); refine goesL_ (some 5) rfl rfl Try.func73 by7 rfl #[.agg #[.int .i64 a0_0, .slice A0_1 l0_1.length c0_1]] rfl by2 ?_; (with_reducible refine (spec_ImageOK.calls k a0_0 _ _ l0_1 true _ ?side1 ?side2 A2.out).mono ?_); (case side1 => repeat (first | exact (Kd.C_below HR0_1.out HB.out) | (with_reducible refine Kd.C_alloc ?_ _) | (with_reducible refine Kd.C_drewN ?_ _) | (with_reducible refine Kd.C_drew ?_))); (case side2 => exact HC0_1.out); rintro e w7 ⟨rfl, hb⟩; refine ⟨_, rfl, ?_⟩; have n0_ := Aside0.mk (blk_below (g := gb184) (o := .cells #[.int .i64 a0_0, .slice A0_1 l0_1.length c0_1] 29 (0, 0)) by70 hb); have n1_ := Aside0.mk (below_step by55 hb); clear BK184; clear HB; have BK184 := n0_; have HB := n1_; clear n0_ n1_; (try clear hb); (try clear hb2); (try clear hk); (try clear hi); have hcz8_0 : w7.cell? ⟨gb184, 0, none⟩ = some (.int .i64 a0_0) := (blk_cell BK184.out 0).trans rfl; have hcz8_1 : w7.cell? ⟨gb184, 1, none⟩ = some (.slice A0_1 l0_1.length c0_1) := (blk_cell BK184.out 1).trans rfl; have hfz8_0 := blk_frozen BK184.out 0; have hfz8_1 := blk_frozen BK184.out 1) | ((with_reducible refine gate_callee (f := 74) rfl ?_); refine goesL_ (some 8) rfl rfl Try.func74 by7 rfl #[.agg #[.int .i64 a0_0, .slice A0_1 l0_1.length c0_1]] rfl by2 ?_; (with_reducible refine (spec_l10Text.calls k a0_0 _ _ l0_1 t186 _ ?side1 ?side2 A4.out).mono ?_); (case side1 => repeat (first | exact (Kd.C_below HR0_1.out HB.out) | (with_reducible refine Kd.C_alloc ?_ _) | (with_reducible refine Kd.C_drewN ?_ _) | (with_reducible refine Kd.C_drew ?_))); (case side2 => exact HC0_1.out); rintro e w9 ⟨rfl, hb⟩; refine ⟨_, rfl, ?_⟩; have n0_ := Aside0.mk (blk_below (g := gb184) (o := .cells #[.int .i64 a0_0, .slice A0_1 l0_1.length c0_1] 29 (0, 0)) by70 hb); have n1_ := Aside0.mk (below_step by55 hb); clear BK184; clear HB; have BK184 := n0_; have HB := n1_; clear n0_ n1_; (try clear hb); (try clear hb2); (try clear hk); (try clear hi)))
    go_ret2
    exact ⟨by first | rfl | (simp [errW_none, errW_some] <;> rfl) | (simp [*, errW_none, errW_some] <;> rfl), by repeat (first | (with_reducible first | exact HB.out | apply below_alloc | apply pw_below_drewN | apply below_drew1 | refine below_set ?_ GE184.out) | exact HB.out)⟩
  · replace c3 := Bool.eq_false_iff.mpr c3
    subst c3
    have H1 : (some ((⟨#[]⟩ : ByteArray), 1)) = some (r1, r2) := by rw [if_neg (show ¬ (false = true) by decide)] at H; exact H
    clear H
    have H := H1
    clear H1
    simp only [Option.some.injEq, Prod.mk.injEq] at H
    obtain ⟨rfl, rfl⟩ := H
    go_enter Try.func48, Try.ntmps48
    go_wp2_with (first | ((with_reducible refine gate_dst (N := 1) rfl ?_); refine box_event ?hg (N := 1) ?hd (cs := #[.int .i64 a0_0, .slice A0_1 l0_1.length c0_1]) (t := 29) ?hr ?_; (case hd => rfl); (case hg => rfl); (case hr => first | (go_simp; done) | (go_simp; rfl)); intro gb184 hg w10 hbox hb; have n0_ := Aside0.mk (below_step by1 hb); have n1_ := Aside0.mk (hbox); have n2_ := Aside0.mk ((by0 : w.heap.size ≤ gb184)); have n3_ := Aside0.mk ((by0 : w.heap.size ≤ gb184)); clear HB; have HB := n0_; have BK184 := n1_; have GW184 := n2_; have GE184 := n3_; clear n0_ n1_ n2_ n3_; clear hb hbox hg; have hcz11_0 : w10.cell? ⟨gb184, 0, none⟩ = some (.int .i64 a0_0) := (blk_cell BK184.out 0).trans rfl; have hcz11_1 : w10.cell? ⟨gb184, 1, none⟩ = some (.slice A0_1 l0_1.length c0_1) := (blk_cell BK184.out 1).trans rfl; have hfz11_0 := blk_frozen BK184.out 0; have hfz11_1 := blk_frozen BK184.out 1) | ((with_reducible refine gate_callee (f := 73) rfl ?_); refine goesL_ (some 5) rfl rfl Try.func73 by7 rfl #[.agg #[.int .i64 a0_0, .slice A0_1 l0_1.length c0_1]] rfl by2 ?_; (with_reducible refine (spec_ImageOK.calls k a0_0 _ _ l0_1 false _ ?side1 ?side2 A2.out).mono ?_); (case side1 => repeat (first | exact (Kd.C_below HR0_1.out HB.out) | (with_reducible refine Kd.C_alloc ?_ _) | (with_reducible refine Kd.C_drewN ?_ _) | (with_reducible refine Kd.C_drew ?_))); (case side2 => exact HC0_1.out); rintro e w12 ⟨rfl, hb⟩; refine ⟨_, rfl, ?_⟩; have n0_ := Aside0.mk (blk_below (g := gb184) (o := .cells #[.int .i64 a0_0, .slice A0_1 l0_1.length c0_1] 29 (0, 0)) by70 hb); have n1_ := Aside0.mk (below_step by55 hb); clear BK184; clear HB; have BK184 := n0_; have HB := n1_; clear n0_ n1_; (try clear hb); (try clear hb2); (try clear hk); (try clear hi)))
    go_ret2
    exact ⟨by first | rfl | (simp [errW_none, errW_some] <;> rfl) | (simp [*, errW_none, errW_some] <;> rfl), by repeat (first | (with_reducible first | exact HB.out | apply below_alloc | apply pw_below_drewN | apply below_drew1 | refine below_set ?_ GE184.out) | exact HB.out)⟩

end Go.Proofs.Ytigoabhkdipdeaa.PFnExactElfText
