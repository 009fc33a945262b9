/- Laid by a program of this session (patch_print.py) out of the translation: plain functions and what the calls do. No condition. -/
import Derived.Test.YtigoabhkdipdeaaPFnExactElfTextx0
import Derived.Test.YtigoabhkdipdeaaPFnExactElfTextx9
import Derived.Test.YtigoabhkdipdeaaPFnExactElfTextx10
namespace Go.Proofs.Ytigoabhkdipdeaa.PFnExactElfText
open Go.RowKit Go.Proofs.YtigoabhkdipdeaaW.PrintWords Go.Proofs.YtigoabhkdipdeaaW.PrintLast Go.Proofs.YtigoabhkdipdeaaW.PrintMore
attribute [local go_sem] max2_int min2_int max_two min_two max_three min_three max_four min_four   -- for this text's walks alone
set_option linter.unusedVariables false
set_option linter.unusedSimpArgs false

/-! ### impl_ElfText: function 49 -/
def impl_ElfText.l0 : Nat → ByteArray → ByteArray → Int → List (S111) → Int → Int → Option (ByteArray × Int)
  | 0, _, _, _, _, _, _ => none
  | k + 1, x4, x5, x6, x24, x25, x26 => if x26 < x25 then (if 0 ≤ x26 then (if x26 < (x24.length : Int) then ((impl_little.f k 1 4).bind fun t234 => ((impl_little.f k ((rd_T111 x24 x26).f0) 4).bind fun t235 => (if t234.size + t235.size ≤ 9223372036854775807 then ((impl_little.f k (wrap64 (x6 + (x5.size : Int))) 8).bind fun t236 => (if (t234 ++ t235).size + t236.size ≤ 9223372036854775807 then ((impl_little.f k ((rd_T111 x24 x26).f1) 8).bind fun t237 => (if ((t234 ++ t235) ++ t236).size + t237.size ≤ 9223372036854775807 then ((impl_little.f k ((rd_T111 x24 x26).f1) 8).bind fun t238 => (if (((t234 ++ t235) ++ t236) ++ t237).size + t238.size ≤ 9223372036854775807 then ((impl_little.f k (((rd_T111 x24 x26).f3).size : Int) 8).bind fun t239 => (if ((((t234 ++ t235) ++ t236) ++ t237) ++ t238).size + t239.size ≤ 9223372036854775807 then ((impl_little.f k ((rd_T111 x24 x26).f2) 8).bind fun t240 => (if (((((t234 ++ t235) ++ t236) ++ t237) ++ t238) ++ t239).size + t240.size ≤ 9223372036854775807 then ((impl_little.f k 256 8).bind fun t241 => (if ((((((t234 ++ t235) ++ t236) ++ t237) ++ t238) ++ t239) ++ t240).size + t241.size ≤ 9223372036854775807 then (if x4.size + (((((((t234 ++ t235) ++ t236) ++ t237) ++ t238) ++ t239) ++ t240) ++ t241).size ≤ 9223372036854775807 then (if x5.size + ((rd_T111 x24 x26).f3).size ≤ 9223372036854775807 then (impl_ElfText.l0 k (x4 ++ (((((((t234 ++ t235) ++ t236) ++ t237) ++ t238) ++ t239) ++ t240) ++ t241)) (x5 ++ ((rd_T111 x24 x26).f3)) x6 x24 x25 (wrap64 (x26 + 1))) else (none)) else (none)) else (none))) else (none))) else (none))) else (none))) else (none))) else (none))) else (none)))) else (none)) else (none)) else (if x4.size + x5.size ≤ 9223372036854775807 then (some (x4 ++ x5, 0)) else (none))
def impl_ElfText.f (k : Nat) (a0_0 : Int) (l0_1 : List (S111)) : Option (ByteArray × Int) := (impl_ImageOK.f k a0_0 l0_1).bind fun t230 => (if t230 = true then ((impl_headText.f k a0_0 (l0_1.length : Int)).bind fun t231 => (impl_ElfText.l0 k t231 (⟨#[]⟩ : ByteArray) (wrap64 (64 + (wrap64 (56 * (l0_1.length : Int))))) l0_1 (l0_1.length : Int) 0)) else (some ((⟨#[]⟩ : ByteArray), 1)))
theorem impl_ElfText.mono_l : ∀ k, (∀ y0 y1 y2 y3 y4 y5, LeO (impl_ElfText.l0 k y0 y1 y2 y3 y4 y5) (impl_ElfText.l0 (k + 1) y0 y1 y2 y3 y4 y5))
  | 0 => fun _ _ _ _ _ _ r h => by simp [impl_ElfText.l0] at h
  | k + 1 => by
    have ih0 := impl_ElfText.mono_l k
    · intro y0 y1 y2 y3 y4 y5
      unfold impl_ElfText.l0
      repeat' first
      | (with_reducible exact ih0 _ _ _ _ _ _)
      | (with_reducible exact impl_ImageOK.mono _ _ _)
      | (with_reducible exact impl_headText.mono _ _ _)
      | (with_reducible exact impl_little.mono _ _ _)
      | (with_reducible exact LeO.refl _)
      | (with_reducible exact LeO.none _)
      | (with_reducible refine LeO.ite ?_ ?_)
      | (with_reducible refine LeO.bind ?_ (fun _ => ?_))
      | exact ih0 _ _ _ _ _ _
      | exact impl_ImageOK.mono _ _ _
      | exact impl_headText.mono _ _ _
      | exact impl_little.mono _ _ _
      | exact LeO.none _
      | refine LeO.ite ?_ ?_
      | refine LeO.bind ?_ (fun _ => ?_)
theorem impl_ElfText.mono : ∀ a0 a1 k, LeO (impl_ElfText.f k a0 a1) (impl_ElfText.f (k + 1) a0 a1) := by
  intro a0 a1 k
  have ih0 := impl_ElfText.mono_l k
  unfold impl_ElfText.f
  repeat' first
      | (with_reducible exact ih0 _ _ _ _ _ _)
      | (with_reducible exact impl_ImageOK.mono _ _ _)
      | (with_reducible exact impl_headText.mono _ _ _)
      | (with_reducible exact impl_little.mono _ _ _)
      | (with_reducible exact LeO.refl _)
      | (with_reducible exact LeO.none _)
      | (with_reducible refine LeO.ite ?_ ?_)
      | (with_reducible refine LeO.bind ?_ (fun _ => ?_))
      | exact ih0 _ _ _ _ _ _
      | exact impl_ImageOK.mono _ _ _
      | exact impl_headText.mono _ _ _
      | exact impl_little.mono _ _ _
      | exact LeO.none _
      | refine LeO.ite ?_ ?_
      | refine LeO.bind ?_ (fun _ => ?_)
def impl_ElfText.T8 : Bool × List (List Nat × List Nat) := (true, [([], []), ([], []), ([], []), ([2], [2]), ([3, 1], [3]), ([1, 4], [1, 4]), ([], []), ([], []), ([7], [7]), ([6, 8], [6, 8]), ([9, 4], [9]), ([5, 10], [5, 10]), ([], []), ([12], [12]), ([13, 10], [13]), ([11, 14], [11, 14]), ([], []), ([16], [16]), ([17, 14], [17]), ([15, 18], [15, 18]), ([], []), ([20], [20]), ([21], [21]), ([22, 18], [22]), ([19, 23], [19, 23]), ([], []), ([25], [25]), ([26, 23], [26]), ([24, 27], [24, 27]), ([27], []), ([28, 29], [28, 29]), ([0, 30], [0, 30]), ([31, 29, 0, 1, 2, 3, 4, 5, 6, 7, 8, 9, 10, 11, 12, 13, 14, 15, 16, 17, 18, 19, 20, 21, 22, 23, 24, 25, 26, 27, 28, 29, 30, 31], [0, 31])])
def impl_ElfText.B8 : List Nat := [0, 0, 0, 4, 14, 30, 0, 0, 128, 448, 990, 2046, 0, 4096, 14302, 32766, 0, 65536, 227294, 524286, 0, 1048576, 3145728, 7829470, 16777214, 0, 33554432, 116881374, 268435454, 251099102, 1073741822, 2147483647, 4294967295]
theorem impl_ElfText.tab8 : rtab .any (opsOf Try.f49 8) = impl_ElfText.T8 := by kernel_rfl
theorem impl_ElfText.bits8 : waitsOk impl_ElfText.T8.2 impl_ElfText.B8 = true := by kernel_rfl
set_option maxHeartbeats 8000000 in
set_option maxRecDepth 100000 in
theorem impl_ElfText.calls (k : Nat) (a0_0 : Int) (A0_1 : Option Addr) (c0_1 : Nat) (l0_1 : List (S111)) (r1 : ByteArray) (r2 : Int) (w : World) (hr0_1 : Kd.C k111 w A0_1 l0_1.length l0_1) (hc0_1 : l0_1.length ≤ c0_1) (h : impl_ElfText.f k a0_0 l0_1 = some (r1, r2)) :
    Calls Try.prog 49 #[.agg #[.int .i64 a0_0, .slice A0_1 l0_1.length c0_1]] w fun e w' => e = .returned (.tuple #[.string r1, .int .i64 r2]) ∧ Below w.heap.size w w' := by
  have hu29 := Try.underlying29
  have hu111 := Try.underlying111
  have HR0_1 := Aside0.mk hr0_1
  have HC0_1 := Aside0.mk hc0_1
  clear hr0_1 hc0_1
  have HB := Aside0.mk (Below.refl w.heap.size w)
  have H : ((impl_ImageOK.f k a0_0 l0_1).bind fun t230 => (if t230 = true then ((impl_headText.f k a0_0 (l0_1.length : Int)).bind fun t231 => (impl_ElfText.l0 k t231 (⟨#[]⟩ : ByteArray) (wrap64 (64 + (wrap64 (56 * (l0_1.length : Int))))) l0_1 (l0_1.length : Int) 0)) else (some ((⟨#[]⟩ : ByteArray), 1)))) = some (r1, r2) := h
  clear h
  replace H := Option.bind_eq_some_iff.mp H
  obtain ⟨t230, A20, H⟩ := H
  replace H : (if t230 = true then ((impl_headText.f k a0_0 (l0_1.length : Int)).bind fun t231 => (impl_ElfText.l0 k t231 (⟨#[]⟩ : ByteArray) (wrap64 (64 + (wrap64 (56 * (l0_1.length : Int))))) l0_1 (l0_1.length : Int) 0)) else (some ((⟨#[]⟩ : ByteArray), 1))) = some (r1, r2) := H
  have A2 := Aside0.mk A20
  clear A20
  by_cases c3 : t230 = true
  · subst c3
    have H1 : ((impl_headText.f k a0_0 (l0_1.length : Int)).bind fun t231 => (impl_ElfText.l0 k t231 (⟨#[]⟩ : ByteArray) (wrap64 (64 + (wrap64 (56 * (l0_1.length : Int))))) l0_1 (l0_1.length : Int) 0)) = some (r1, r2) := by rw [if_pos rfl] at H; exact H
    clear H
    have H := H1
    clear H1
    replace H := Option.bind_eq_some_iff.mp H
    obtain ⟨t231, A40, H⟩ := H
    replace H : (impl_ElfText.l0 k t231 (⟨#[]⟩ : ByteArray) (wrap64 (64 + (wrap64 (56 * (l0_1.length : Int))))) l0_1 (l0_1.length : Int) 0) = some (r1, r2) := H
    have A4 := Aside0.mk A40
    clear A40
    have H' := Aside0.mk H
    clear H
    go_enter Try.func49, Try.ntmps49
    go_wp2_with (first | ((with_reducible refine gate_dst (N := 1) rfl ?_); refine box_event ?hg (N := 1) ?hd (cs := #[.int .i64 a0_0, .slice A0_1 l0_1.length c0_1]) (t := 29) ?hr ?_; (case hd => rfl); (case hg => rfl); (case hr => first | (go_simp; done) | (go_simp; rfl)); intro gb229 hg w5 hbox hb; have n0_ := Aside0.mk (below_step by1 hb); have n1_ := Aside0.mk (hbox); have n2_ := Aside0.mk ((by0 : w.heap.size ≤ gb229)); have n3_ := Aside0.mk ((by0 : w.heap.size ≤ gb229)); clear HB; have HB := n0_; have BK229 := n1_; have GW229 := n2_; have GE229 := n3_; clear n0_ n1_ n2_ n3_; clear hb hbox hg; have hcz6_0 : w5.cell? ⟨gb229, 0, none⟩ = some (.int .i64 a0_0) := (blk_cell BK229.out 0).trans rfl; have hcz6_1 : w5.cell? ⟨gb229, 1, none⟩ = some (.slice A0_1 l0_1.length c0_1) := (blk_cell BK229.out 1).trans rfl; have hfz6_0 := blk_frozen BK229.out 0; have hfz6_1 := blk_frozen BK229.out 1) | ((with_reducible refine gate_callee (f := 76) rfl ?_); refine goesL_ (some 10) rfl rfl Try.func76 by7 rfl #[.agg #[.int .i64 a0_0, .slice A0_1 l0_1.length c0_1]] rfl by2 ?_; (with_reducible refine (impl_ImageOK.calls k a0_0 _ _ l0_1 true _ ?side1 ?side2 A2.out).mono ?_); (case side1 => repeat (first | exact (Kd.C_below HR0_1.out HB.out) | (with_reducible refine Kd.C_alloc ?_ _) | (with_reducible refine Kd.C_drewN ?_ _) | (with_reducible refine Kd.C_drew ?_))); (case side2 => exact HC0_1.out); rintro e w7 ⟨rfl, hb⟩; refine ⟨_, rfl, ?_⟩; have n0_ := Aside0.mk (blk_below (g := gb229) (o := .cells #[.int .i64 a0_0, .slice A0_1 l0_1.length c0_1] 29 (0, 0)) by24 hb); have n1_ := Aside0.mk (below_step by44 hb); clear BK229; clear HB; have BK229 := n0_; have HB := n1_; clear n0_ n1_; (try clear hb); (try clear hb2); (try clear hk); (try clear hi); have hcz8_0 : w7.cell? ⟨gb229, 0, none⟩ = some (.int .i64 a0_0) := (blk_cell BK229.out 0).trans rfl; have hcz8_1 : w7.cell? ⟨gb229, 1, none⟩ = some (.slice A0_1 l0_1.length c0_1) := (blk_cell BK229.out 1).trans rfl; have hfz8_0 := blk_frozen BK229.out 0; have hfz8_1 := blk_frozen BK229.out 1) | ((with_reducible refine gate_callee (f := 123) rfl ?_); refine goesL_ (some 17) rfl rfl Try.func123 by7 rfl #[.int .i64 a0_0, .int .i64 (l0_1.length : Int)] rfl by2 ?_; (with_reducible refine (impl_headText.calls k a0_0 (l0_1.length : Int) t231 _ A4.out).mono ?_); rintro e w9 ⟨rfl, hb⟩; refine ⟨_, rfl, ?_⟩; have n0_ := Aside0.mk (blk_below (g := gb229) (o := .cells #[.int .i64 a0_0, .slice A0_1 l0_1.length c0_1] 29 (0, 0)) by24 hb); have n1_ := Aside0.mk (below_step by44 hb); clear BK229; clear HB; have BK229 := n0_; have HB := n1_; clear n0_ n1_; (try clear hb); (try clear hb2); (try clear hk); (try clear hi); have hcz10_0 : w9.cell? ⟨gb229, 0, none⟩ = some (.int .i64 a0_0) := (blk_cell BK229.out 0).trans rfl; have hcz10_1 : w9.cell? ⟨gb229, 1, none⟩ = some (.slice A0_1 l0_1.length c0_1) := (blk_cell BK229.out 1).trans rfl; have hfz10_0 := blk_frozen BK229.out 0; have hfz10_1 := blk_frozen BK229.out 1))
    go_loopg [4, 5, 26] k (fun kq v4 v5 v26 w' => ∃ (x4_1 : ByteArray) (x5_1 : ByteArray) (x26_1 : Int), v4 = .string x4_1 ∧ v5 = .string x5_1 ∧ v26 = .int .i64 x26_1 ∧ Aside0 (impl_ElfText.l0 kq x4_1 x5_1 (wrap64 (64 + (wrap64 (56 * (l0_1.length : Int))))) l0_1 (l0_1.length : Int) x26_1 = some (r1, r2)) ∧ Aside0 (kq ≤ k) ∧ Aside0 (w'.heap[gb229]? = some (.cells #[.int .i64 a0_0, (.slice A0_1 l0_1.length c0_1)] 29 (0, 0))) ∧ Aside0 (Below w.heap.size w w'))
    case atStart => exact ⟨(t231), ((⟨#[]⟩ : ByteArray)), (0), by9, by9, by9, H', ⟨Nat.le_refl _⟩, ⟨by (with_reducible repeat (first | refine blk_drewN ?_ _ | refine blk_drew ?_ | refine blk_alloc ?_ _)); exact BK229.out⟩, ⟨by repeat (first | (with_reducible first | exact HB.out | apply below_alloc | apply pw_below_drewN | apply below_drew1 | refine below_set ?_ GE229.out) | exact HB.out)⟩⟩
    case round =>
      clear H'
      try clear c1
      try clear p2
      try clear c3
      try clear c4
      try clear p6
      try clear c7
      try clear hcz10_0
      try clear hcz10_1
      try clear hcz6_0
      try clear hcz6_1
      try clear hcz8_0
      try clear hcz8_1
      try clear hfz10_0
      try clear hfz10_1
      try clear hfz6_0
      try clear hfz6_1
      try clear hfz8_0
      try clear hfz8_1
      obtain ⟨x4_1, x5_1, x26_1, rfl, rfl, rfl, HA, HK1, BK229, HB⟩ := hrel
      cases gk with
      | zero => exact absurd HA.out (by simp [impl_ElfText.l0])
      | succ k1 =>
        have H := HA.out
        clear HA
        simp only [impl_ElfText.l0] at H
        by_cases c11 : x26_1 < (l0_1.length : Int)
        · rw [if_pos c11] at H
          have c11b0 : decide (x26_1 < (l0_1.length : Int)) = true := decide_eq_true c11
          clear c11
          by_cases c12 : 0 ≤ x26_1
          · rw [if_pos c12] at H
            have c12b0 : decide (0 ≤ x26_1) = true := decide_eq_true c12
            clear c12
            by_cases c13 : x26_1 < (l0_1.length : Int)
            · rw [if_pos c13] at H
              have c13b0 : decide (x26_1 < (l0_1.length : Int)) = true := decide_eq_true c13
              clear c13
              replace H := Option.bind_eq_some_iff.mp H
              obtain ⟨t234, A140, H⟩ := H
              replace H : ((impl_little.f k1 ((rd_T111 l0_1 x26_1).f0) 4).bind fun t235 => (if t234.size + t235.size ≤ 9223372036854775807 then ((impl_little.f k1 (wrap64 ((wrap64 (64 + (wrap64 (56 * (l0_1.length : Int))))) + (x5_1.size : Int))) 8).bind fun t236 => (if (t234 ++ t235).size + t236.size ≤ 9223372036854775807 then ((impl_little.f k1 ((rd_T111 l0_1 x26_1).f1) 8).bind fun t237 => (if ((t234 ++ t235) ++ t236).size + t237.size ≤ 9223372036854775807 then ((impl_little.f k1 ((rd_T111 l0_1 x26_1).f1) 8).bind fun t238 => (if (((t234 ++ t235) ++ t236) ++ t237).size + t238.size ≤ 9223372036854775807 then ((impl_little.f k1 (((rd_T111 l0_1 x26_1).f3).size : Int) 8).bind fun t239 => (if ((((t234 ++ t235) ++ t236) ++ t237) ++ t238).size + t239.size ≤ 9223372036854775807 then ((impl_little.f k1 ((rd_T111 l0_1 x26_1).f2) 8).bind fun t240 => (if (((((t234 ++ t235) ++ t236) ++ t237) ++ t238) ++ t239).size + t240.size ≤ 9223372036854775807 then ((impl_little.f k1 256 8).bind fun t241 => (if ((((((t234 ++ t235) ++ t236) ++ t237) ++ t238) ++ t239) ++ t240).size + t241.size ≤ 9223372036854775807 then (if x4_1.size + (((((((t234 ++ t235) ++ t236) ++ t237) ++ t238) ++ t239) ++ t240) ++ t241).size ≤ 9223372036854775807 then (if x5_1.size + ((rd_T111 l0_1 x26_1).f3).size ≤ 9223372036854775807 then (impl_ElfText.l0 k1 (x4_1 ++ (((((((t234 ++ t235) ++ t236) ++ t237) ++ t238) ++ t239) ++ t240) ++ t241)) (x5_1 ++ ((rd_T111 l0_1 x26_1).f3)) (wrap64 (64 + (wrap64 (56 * (l0_1.length : Int))))) l0_1 (l0_1.length : Int) (wrap64 (x26_1 + 1))) else (none)) else (none)) else (none))) else (none))) else (none))) else (none))) else (none))) else (none))) else (none))) = some (r1, r2) := H
              have A14 := Aside0.mk A140
              clear A140
              replace H := Option.bind_eq_some_iff.mp H
              obtain ⟨t235, A150, H⟩ := H
              replace H : (if t234.size + t235.size ≤ 9223372036854775807 then ((impl_little.f k1 (wrap64 ((wrap64 (64 + (wrap64 (56 * (l0_1.length : Int))))) + (x5_1.size : Int))) 8).bind fun t236 => (if (t234 ++ t235).size + t236.size ≤ 9223372036854775807 then ((impl_little.f k1 ((rd_T111 l0_1 x26_1).f1) 8).bind fun t237 => (if ((t234 ++ t235) ++ t236).size + t237.size ≤ 9223372036854775807 then ((impl_little.f k1 ((rd_T111 l0_1 x26_1).f1) 8).bind fun t238 => (if (((t234 ++ t235) ++ t236) ++ t237).size + t238.size ≤ 9223372036854775807 then ((impl_little.f k1 (((rd_T111 l0_1 x26_1).f3).size : Int) 8).bind fun t239 => (if ((((t234 ++ t235) ++ t236) ++ t237) ++ t238).size + t239.size ≤ 9223372036854775807 then ((impl_little.f k1 ((rd_T111 l0_1 x26_1).f2) 8).bind fun t240 => (if (((((t234 ++ t235) ++ t236) ++ t237) ++ t238) ++ t239).size + t240.size ≤ 9223372036854775807 then ((impl_little.f k1 256 8).bind fun t241 => (if ((((((t234 ++ t235) ++ t236) ++ t237) ++ t238) ++ t239) ++ t240).size + t241.size ≤ 9223372036854775807 then (if x4_1.size + (((((((t234 ++ t235) ++ t236) ++ t237) ++ t238) ++ t239) ++ t240) ++ t241).size ≤ 9223372036854775807 then (if x5_1.size + ((rd_T111 l0_1 x26_1).f3).size ≤ 9223372036854775807 then (impl_ElfText.l0 k1 (x4_1 ++ (((((((t234 ++ t235) ++ t236) ++ t237) ++ t238) ++ t239) ++ t240) ++ t241)) (x5_1 ++ ((rd_T111 l0_1 x26_1).f3)) (wrap64 (64 + (wrap64 (56 * (l0_1.length : Int))))) l0_1 (l0_1.length : Int) (wrap64 (x26_1 + 1))) else (none)) else (none)) else (none))) else (none))) else (none))) else (none))) else (none))) else (none))) else (none)) = some (r1, r2) := H
              have A15 := Aside0.mk A150
              clear A150
              by_cases c16 : t234.size + t235.size ≤ 9223372036854775807
              · rw [if_pos c16] at H
                have c16b0 := eq_true c16
                have c16b1 : decide (t234.size + t235.size ≤ 9223372036854775807) = true := decide_eq_true c16
                try have c16b2 : (9223372036854775807 < t234.size + t235.size) = False := eq_false (Nat.not_lt.2 c16)
                replace H := Option.bind_eq_some_iff.mp H
                obtain ⟨t236, A170, H⟩ := H
                replace H : (if (t234 ++ t235).size + t236.size ≤ 9223372036854775807 then ((impl_little.f k1 ((rd_T111 l0_1 x26_1).f1) 8).bind fun t237 => (if ((t234 ++ t235) ++ t236).size + t237.size ≤ 9223372036854775807 then ((impl_little.f k1 ((rd_T111 l0_1 x26_1).f1) 8).bind fun t238 => (if (((t234 ++ t235) ++ t236) ++ t237).size + t238.size ≤ 9223372036854775807 then ((impl_little.f k1 (((rd_T111 l0_1 x26_1).f3).size : Int) 8).bind fun t239 => (if ((((t234 ++ t235) ++ t236) ++ t237) ++ t238).size + t239.size ≤ 9223372036854775807 then ((impl_little.f k1 ((rd_T111 l0_1 x26_1).f2) 8).bind fun t240 => (if (((((t234 ++ t235) ++ t236) ++ t237) ++ t238) ++ t239).size + t240.size ≤ 9223372036854775807 then ((impl_little.f k1 256 8).bind fun t241 => (if ((((((t234 ++ t235) ++ t236) ++ t237) ++ t238) ++ t239) ++ t240).size + t241.size ≤ 9223372036854775807 then (if x4_1.size + (((((((t234 ++ t235) ++ t236) ++ t237) ++ t238) ++ t239) ++ t240) ++ t241).size ≤ 9223372036854775807 then (if x5_1.size + ((rd_T111 l0_1 x26_1).f3).size ≤ 9223372036854775807 then (impl_ElfText.l0 k1 (x4_1 ++ (((((((t234 ++ t235) ++ t236) ++ t237) ++ t238) ++ t239) ++ t240) ++ t241)) (x5_1 ++ ((rd_T111 l0_1 x26_1).f3)) (wrap64 (64 + (wrap64 (56 * (l0_1.length : Int))))) l0_1 (l0_1.length : Int) (wrap64 (x26_1 + 1))) else (none)) else (none)) else (none))) else (none))) else (none))) else (none))) else (none))) else (none)) = some (r1, r2) := H
                have A17 := Aside0.mk A170
                clear A170
                by_cases c18 : (t234 ++ t235).size + t236.size ≤ 9223372036854775807
                · rw [if_pos c18] at H
                  have c18b0 := eq_true c18
                  have c18b1 : decide ((t234 ++ t235).size + t236.size ≤ 9223372036854775807) = true := decide_eq_true c18
                  try have c18b2 : (9223372036854775807 < (t234 ++ t235).size + t236.size) = False := eq_false (Nat.not_lt.2 c18)
                  have c18b4 := c18b2
                  (try simp only [ByteArray.size_append] at c18b4)
                  replace H := Option.bind_eq_some_iff.mp H
                  obtain ⟨t237, A190, H⟩ := H
                  replace H : (if ((t234 ++ t235) ++ t236).size + t237.size ≤ 9223372036854775807 then ((impl_little.f k1 ((rd_T111 l0_1 x26_1).f1) 8).bind fun t238 => (if (((t234 ++ t235) ++ t236) ++ t237).size + t238.size ≤ 9223372036854775807 then ((impl_little.f k1 (((rd_T111 l0_1 x26_1).f3).size : Int) 8).bind fun t239 => (if ((((t234 ++ t235) ++ t236) ++ t237) ++ t238).size + t239.size ≤ 9223372036854775807 then ((impl_little.f k1 ((rd_T111 l0_1 x26_1).f2) 8).bind fun t240 => (if (((((t234 ++ t235) ++ t236) ++ t237) ++ t238) ++ t239).size + t240.size ≤ 9223372036854775807 then ((impl_little.f k1 256 8).bind fun t241 => (if ((((((t234 ++ t235) ++ t236) ++ t237) ++ t238) ++ t239) ++ t240).size + t241.size ≤ 9223372036854775807 then (if x4_1.size + (((((((t234 ++ t235) ++ t236) ++ t237) ++ t238) ++ t239) ++ t240) ++ t241).size ≤ 9223372036854775807 then (if x5_1.size + ((rd_T111 l0_1 x26_1).f3).size ≤ 9223372036854775807 then (impl_ElfText.l0 k1 (x4_1 ++ (((((((t234 ++ t235) ++ t236) ++ t237) ++ t238) ++ t239) ++ t240) ++ t241)) (x5_1 ++ ((rd_T111 l0_1 x26_1).f3)) (wrap64 (64 + (wrap64 (56 * (l0_1.length : Int))))) l0_1 (l0_1.length : Int) (wrap64 (x26_1 + 1))) else (none)) else (none)) else (none))) else (none))) else (none))) else (none))) else (none)) = some (r1, r2) := H
                  have A19 := Aside0.mk A190
                  clear A190
                  by_cases c20 : ((t234 ++ t235) ++ t236).size + t237.size ≤ 9223372036854775807
                  · rw [if_pos c20] at H
                    have c20b0 := eq_true c20
                    have c20b1 : decide (((t234 ++ t235) ++ t236).size + t237.size ≤ 9223372036854775807) = true := decide_eq_true c20
                    try have c20b2 : (9223372036854775807 < ((t234 ++ t235) ++ t236).size + t237.size) = False := eq_false (Nat.not_lt.2 c20)
                    have c20b4 := c20b2
                    (try simp only [ByteArray.size_append] at c20b4)
                    replace H := Option.bind_eq_some_iff.mp H
                    obtain ⟨t238, A210, H⟩ := H
                    replace H : (if (((t234 ++ t235) ++ t236) ++ t237).size + t238.size ≤ 9223372036854775807 then ((impl_little.f k1 (((rd_T111 l0_1 x26_1).f3).size : Int) 8).bind fun t239 => (if ((((t234 ++ t235) ++ t236) ++ t237) ++ t238).size + t239.size ≤ 9223372036854775807 then ((impl_little.f k1 ((rd_T111 l0_1 x26_1).f2) 8).bind fun t240 => (if (((((t234 ++ t235) ++ t236) ++ t237) ++ t238) ++ t239).size + t240.size ≤ 9223372036854775807 then ((impl_little.f k1 256 8).bind fun t241 => (if ((((((t234 ++ t235) ++ t236) ++ t237) ++ t238) ++ t239) ++ t240).size + t241.size ≤ 9223372036854775807 then (if x4_1.size + (((((((t234 ++ t235) ++ t236) ++ t237) ++ t238) ++ t239) ++ t240) ++ t241).size ≤ 9223372036854775807 then (if x5_1.size + ((rd_T111 l0_1 x26_1).f3).size ≤ 9223372036854775807 then (impl_ElfText.l0 k1 (x4_1 ++ (((((((t234 ++ t235) ++ t236) ++ t237) ++ t238) ++ t239) ++ t240) ++ t241)) (x5_1 ++ ((rd_T111 l0_1 x26_1).f3)) (wrap64 (64 + (wrap64 (56 * (l0_1.length : Int))))) l0_1 (l0_1.length : Int) (wrap64 (x26_1 + 1))) else (none)) else (none)) else (none))) else (none))) else (none))) else (none)) = some (r1, r2) := H
                    have A21 := Aside0.mk A210
                    clear A210
                    by_cases c22 : (((t234 ++ t235) ++ t236) ++ t237).size + t238.size ≤ 9223372036854775807
                    · rw [if_pos c22] at H
                      have c22b0 := eq_true c22
                      have c22b1 : decide ((((t234 ++ t235) ++ t236) ++ t237).size + t238.size ≤ 9223372036854775807) = true := decide_eq_true c22
                      try have c22b2 : (9223372036854775807 < (((t234 ++ t235) ++ t236) ++ t237).size + t238.size) = False := eq_false (Nat.not_lt.2 c22)
                      have c22b4 := c22b2
                      (try simp only [ByteArray.size_append] at c22b4)
                      replace H := Option.bind_eq_some_iff.mp H
                      obtain ⟨t239, A230, H⟩ := H
                      replace H : (if ((((t234 ++ t235) ++ t236) ++ t237) ++ t238).size + t239.size ≤ 9223372036854775807 then ((impl_little.f k1 ((rd_T111 l0_1 x26_1).f2) 8).bind fun t240 => (if (((((t234 ++ t235) ++ t236) ++ t237) ++ t238) ++ t239).size + t240.size ≤ 9223372036854775807 then ((impl_little.f k1 256 8).bind fun t241 => (if ((((((t234 ++ t235) ++ t236) ++ t237) ++ t238) ++ t239) ++ t240).size + t241.size ≤ 9223372036854775807 then (if x4_1.size + (((((((t234 ++ t235) ++ t236) ++ t237) ++ t238) ++ t239) ++ t240) ++ t241).size ≤ 9223372036854775807 then (if x5_1.size + ((rd_T111 l0_1 x26_1).f3).size ≤ 9223372036854775807 then (impl_ElfText.l0 k1 (x4_1 ++ (((((((t234 ++ t235) ++ t236) ++ t237) ++ t238) ++ t239) ++ t240) ++ t241)) (x5_1 ++ ((rd_T111 l0_1 x26_1).f3)) (wrap64 (64 + (wrap64 (56 * (l0_1.length : Int))))) l0_1 (l0_1.length : Int) (wrap64 (x26_1 + 1))) else (none)) else (none)) else (none))) else (none))) else (none)) = some (r1, r2) := H
                      have A23 := Aside0.mk A230
                      clear A230
                      by_cases c24 : ((((t234 ++ t235) ++ t236) ++ t237) ++ t238).size + t239.size ≤ 9223372036854775807
                      · rw [if_pos c24] at H
                        have c24b0 := eq_true c24
                        have c24b1 : decide (((((t234 ++ t235) ++ t236) ++ t237) ++ t238).size + t239.size ≤ 9223372036854775807) = true := decide_eq_true c24
                        try have c24b2 : (9223372036854775807 < ((((t234 ++ t235) ++ t236) ++ t237) ++ t238).size + t239.size) = False := eq_false (Nat.not_lt.2 c24)
                        have c24b4 := c24b2
                        (try simp only [ByteArray.size_append] at c24b4)
                        replace H := Option.bind_eq_some_iff.mp H
                        obtain ⟨t240, A250, H⟩ := H
                        replace H : (if (((((t234 ++ t235) ++ t236) ++ t237) ++ t238) ++ t239).size + t240.size ≤ 9223372036854775807 then ((impl_little.f k1 256 8).bind fun t241 => (if ((((((t234 ++ t235) ++ t236) ++ t237) ++ t238) ++ t239) ++ t240).size + t241.size ≤ 9223372036854775807 then (if x4_1.size + (((((((t234 ++ t235) ++ t236) ++ t237) ++ t238) ++ t239) ++ t240) ++ t241).size ≤ 9223372036854775807 then (if x5_1.size + ((rd_T111 l0_1 x26_1).f3).size ≤ 9223372036854775807 then (impl_ElfText.l0 k1 (x4_1 ++ (((((((t234 ++ t235) ++ t236) ++ t237) ++ t238) ++ t239) ++ t240) ++ t241)) (x5_1 ++ ((rd_T111 l0_1 x26_1).f3)) (wrap64 (64 + (wrap64 (56 * (l0_1.length : Int))))) l0_1 (l0_1.length : Int) (wrap64 (x26_1 + 1))) else (none)) else (none)) else (none))) else (none)) = some (r1, r2) := H
                        have A25 := Aside0.mk A250
                        clear A250
                        by_cases c26 : (((((t234 ++ t235) ++ t236) ++ t237) ++ t238) ++ t239).size + t240.size ≤ 9223372036854775807
                        · rw [if_pos c26] at H
                          have c26b0 := eq_true c26
                          have c26b1 : decide ((((((t234 ++ t235) ++ t236) ++ t237) ++ t238) ++ t239).size + t240.size ≤ 9223372036854775807) = true := decide_eq_true c26
                          try have c26b2 : (9223372036854775807 < (((((t234 ++ t235) ++ t236) ++ t237) ++ t238) ++ t239).size + t240.size) = False := eq_false (Nat.not_lt.2 c26)
                          have c26b4 := c26b2
                          (try simp only [ByteArray.size_append] at c26b4)
                          replace H := Option.bind_eq_some_iff.mp H
                          obtain ⟨t241, A270, H⟩ := H
                          replace H : (if ((((((t234 ++ t235) ++ t236) ++ t237) ++ t238) ++ t239) ++ t240).size + t241.size ≤ 9223372036854775807 then (if x4_1.size + (((((((t234 ++ t235) ++ t236) ++ t237) ++ t238) ++ t239) ++ t240) ++ t241).size ≤ 9223372036854775807 then (if x5_1.size + ((rd_T111 l0_1 x26_1).f3).size ≤ 9223372036854775807 then (impl_ElfText.l0 k1 (x4_1 ++ (((((((t234 ++ t235) ++ t236) ++ t237) ++ t238) ++ t239) ++ t240) ++ t241)) (x5_1 ++ ((rd_T111 l0_1 x26_1).f3)) (wrap64 (64 + (wrap64 (56 * (l0_1.length : Int))))) l0_1 (l0_1.length : Int) (wrap64 (x26_1 + 1))) else (none)) else (none)) else (none)) = some (r1, r2) := H
                          have A27 := Aside0.mk A270
                          clear A270
                          by_cases c28 : ((((((t234 ++ t235) ++ t236) ++ t237) ++ t238) ++ t239) ++ t240).size + t241.size ≤ 9223372036854775807
                          · rw [if_pos c28] at H
                            have c28b0 := eq_true c28
                            have c28b1 : decide (((((((t234 ++ t235) ++ t236) ++ t237) ++ t238) ++ t239) ++ t240).size + t241.size ≤ 9223372036854775807) = true := decide_eq_true c28
                            try have c28b2 : (9223372036854775807 < ((((((t234 ++ t235) ++ t236) ++ t237) ++ t238) ++ t239) ++ t240).size + t241.size) = False := eq_false (Nat.not_lt.2 c28)
                            have c28b4 := c28b2
                            (try simp only [ByteArray.size_append] at c28b4)
                            by_cases c29 : x4_1.size + (((((((t234 ++ t235) ++ t236) ++ t237) ++ t238) ++ t239) ++ t240) ++ t241).size ≤ 9223372036854775807
                            · rw [if_pos c29] at H
                              have c29b0 := eq_true c29
                              have c29b1 : decide (x4_1.size + (((((((t234 ++ t235) ++ t236) ++ t237) ++ t238) ++ t239) ++ t240) ++ t241).size ≤ 9223372036854775807) = true := decide_eq_true c29
                              try have c29b2 : (9223372036854775807 < x4_1.size + (((((((t234 ++ t235) ++ t236) ++ t237) ++ t238) ++ t239) ++ t240) ++ t241).size) = False := eq_false (Nat.not_lt.2 c29)
                              have c29b4 := c29b2
                              (try simp only [ByteArray.size_append] at c29b4)
                              by_cases c30 : x5_1.size + ((rd_T111 l0_1 x26_1).f3).size ≤ 9223372036854775807
                              · rw [if_pos c30] at H
                                have c30b0 := eq_true c30
                                have c30b1 : decide (x5_1.size + ((rd_T111 l0_1 x26_1).f3).size ≤ 9223372036854775807) = true := decide_eq_true c30
                                try have c30b2 : (9223372036854775807 < x5_1.size + ((rd_T111 l0_1 x26_1).f3).size) = False := eq_false (Nat.not_lt.2 c30)
                                have H' := Aside0.mk H
                                clear H
                                have p232 : 0 ≤ (x26_1 : Int) := of_decide_eq_true by8
                                have q232 : x26_1 < (l0_1.length : Int) := of_decide_eq_true by8
                                obtain ⟨ad232, e232, hx232_0, hx232_1, hx232_2, hx232_3⟩ := at_T111 HR0_1.out x26_1 p232 q232
                                cases e232
                                replace hx232_0 := (HB.out.cell (World.block_lt_of_cell? w _ hx232_0)).trans hx232_0
                                replace hx232_1 := (HB.out.cell (World.block_lt_of_cell? w _ hx232_1)).trans hx232_1
                                replace hx232_2 := (HB.out.cell (World.block_lt_of_cell? w _ hx232_2)).trans hx232_2
                                replace hx232_3 := (HB.out.cell (World.block_lt_of_cell? w _ hx232_3)).trans hx232_3
                                replace p232 := eq_true p232
                                replace q232 := eq_true q232
                                try go_wp2_with (first | ((with_reducible refine gate_dst (N := 8) rfl ?_); refine box_event ?hg (N := 8) ?hd (cs := #[.int .i64 0, .int .i64 0, .int .i64 0, .string (⟨#[]⟩ : ByteArray)]) (t := 111) ?hr ?_; (case hd => rfl); (case hg => rfl); (case hr => first | (go_simp; done) | (go_simp; rfl)); intro gb233 hg w31 hbox hb; have n0_ := Aside0.mk (blk_below (g := gb229) (o := .cells #[.int .i64 a0_0, .slice (some ad232) l0_1.length c0_1] 29 (0, 0)) by24 hb); have n1_ := Aside0.mk (below_step by44 hb); have n2_ := Aside0.mk (hbox); have n3_ := Aside0.mk ((by66 : w.heap.size ≤ gb233)); have n4_ := Aside0.mk ((by66 : w.heap.size ≤ gb233)); have n5_ := Aside0.mk ((by rw [hg]; exact Nat.ne_of_lt (blk_lt (g := gb229) (o := .cells #[.int .i64 a0_0, .slice (some ad232) l0_1.length c0_1] 29 (0, 0)) by24) : gb229 ≠ gb233)); have n6_ := Aside0.mk ((by rw [hg]; exact Nat.ne_of_gt (blk_lt (g := gb229) (o := .cells #[.int .i64 a0_0, .slice (some ad232) l0_1.length c0_1] 29 (0, 0)) by24) : gb233 ≠ gb229)); clear BK229; clear HB; have BK229 := n0_; have HB := n1_; have BK233 := n2_; have GW233 := n3_; have GE233 := n4_; have NB229_233 := n5_; have NB233_229 := n6_; clear n0_ n1_ n2_ n3_ n4_ n5_ n6_; clear hb hbox hg; have hnb32 := NB233_229.out; have hnc32 := NB229_233.out; have hcz33_0 : w31.cell? ⟨gb233, 0, none⟩ = some (.int .i64 0) := (blk_cell BK233.out 0).trans rfl; have hcz33_1 : w31.cell? ⟨gb233, 1, none⟩ = some (.int .i64 0) := (blk_cell BK233.out 1).trans rfl; have hcz33_2 : w31.cell? ⟨gb233, 2, none⟩ = some (.int .i64 0) := (blk_cell BK233.out 2).trans rfl; have hcz33_3 : w31.cell? ⟨gb233, 3, none⟩ = some (.string (⟨#[]⟩ : ByteArray)) := (blk_cell BK233.out 3).trans rfl; have hfz33_0 := blk_frozen BK233.out 0; have hfz33_1 := blk_frozen BK233.out 1; have hfz33_2 := blk_frozen BK233.out 2; have hfz33_3 := blk_frozen BK233.out 3))
                                have n0_ : Aside0 (((((w31.setCell ⟨gb233, 0, none⟩ (.int .i64 ((rd_T111 l0_1 x26_1).f0))).setCell ⟨gb233, 1, none⟩ (.int .i64 ((rd_T111 l0_1 x26_1).f1))).setCell ⟨gb233, 2, none⟩ (.int .i64 ((rd_T111 l0_1 x26_1).f2))).setCell ⟨gb233, 3, none⟩ (.string ((rd_T111 l0_1 x26_1).f3))).heap[gb229]? = some (.cells #[.int .i64 a0_0, .slice (some ad232) l0_1.length c0_1] 29 (0, 0))) := ⟨by (with_reducible repeat (first | refine blk_drewN ?_ _ | refine blk_drew ?_ | refine blk_alloc ?_ _)); refine blk_far ?_ NB229_233.out _; (with_reducible repeat (first | refine blk_drewN ?_ _ | refine blk_drew ?_ | refine blk_alloc ?_ _)); refine blk_far ?_ NB229_233.out _; (with_reducible repeat (first | refine blk_drewN ?_ _ | refine blk_drew ?_ | refine blk_alloc ?_ _)); refine blk_far ?_ NB229_233.out _; (with_reducible repeat (first | refine blk_drewN ?_ _ | refine blk_drew ?_ | refine blk_alloc ?_ _)); refine blk_far ?_ NB229_233.out _; (with_reducible repeat (first | refine blk_drewN ?_ _ | refine blk_drew ?_ | refine blk_alloc ?_ _)); exact BK229.out⟩
                                have n1_ : Aside0 (((((w31.setCell ⟨gb233, 0, none⟩ (.int .i64 ((rd_T111 l0_1 x26_1).f0))).setCell ⟨gb233, 1, none⟩ (.int .i64 ((rd_T111 l0_1 x26_1).f1))).setCell ⟨gb233, 2, none⟩ (.int .i64 ((rd_T111 l0_1 x26_1).f2))).setCell ⟨gb233, 3, none⟩ (.string ((rd_T111 l0_1 x26_1).f3))).heap[gb233]? = some (.cells #[.int .i64 ((rd_T111 l0_1 x26_1).f0), .int .i64 ((rd_T111 l0_1 x26_1).f1), .int .i64 ((rd_T111 l0_1 x26_1).f2), .string ((rd_T111 l0_1 x26_1).f3)] 111 (0, 0))) := ⟨by (with_reducible repeat (first | refine blk_drewN ?_ _ | refine blk_drew ?_ | refine blk_alloc ?_ _)); refine blk_put (cs := #[.int .i64 ((rd_T111 l0_1 x26_1).f0), .int .i64 ((rd_T111 l0_1 x26_1).f1), .int .i64 ((rd_T111 l0_1 x26_1).f2), .string (⟨#[]⟩ : ByteArray)]) ?_ 3 _ rfl; (with_reducible repeat (first | refine blk_drewN ?_ _ | refine blk_drew ?_ | refine blk_alloc ?_ _)); refine blk_put (cs := #[.int .i64 ((rd_T111 l0_1 x26_1).f0), .int .i64 ((rd_T111 l0_1 x26_1).f1), .int .i64 0, .string (⟨#[]⟩ : ByteArray)]) ?_ 2 _ rfl; (with_reducible repeat (first | refine blk_drewN ?_ _ | refine blk_drew ?_ | refine blk_alloc ?_ _)); refine blk_put (cs := #[.int .i64 ((rd_T111 l0_1 x26_1).f0), .int .i64 0, .int .i64 0, .string (⟨#[]⟩ : ByteArray)]) ?_ 1 _ rfl; (with_reducible repeat (first | refine blk_drewN ?_ _ | refine blk_drew ?_ | refine blk_alloc ?_ _)); refine blk_put (cs := #[.int .i64 0, .int .i64 0, .int .i64 0, .string (⟨#[]⟩ : ByteArray)]) ?_ 0 _ rfl; (with_reducible repeat (first | refine blk_drewN ?_ _ | refine blk_drew ?_ | refine blk_alloc ?_ _)); exact BK233.out⟩
                                have n2_ : Aside0 (Below w.heap.size w ((((w31.setCell ⟨gb233, 0, none⟩ (.int .i64 ((rd_T111 l0_1 x26_1).f0))).setCell ⟨gb233, 1, none⟩ (.int .i64 ((rd_T111 l0_1 x26_1).f1))).setCell ⟨gb233, 2, none⟩ (.int .i64 ((rd_T111 l0_1 x26_1).f2))).setCell ⟨gb233, 3, none⟩ (.string ((rd_T111 l0_1 x26_1).f3)))) := ⟨by repeat (first | (with_reducible first | exact HB.out | apply below_alloc | apply pw_below_drewN | apply below_drew1 | refine below_set ?_ GE229.out | refine below_set ?_ GE233.out) | exact HB.out)⟩
                                (try clear BK229)
                                (try clear BK233)
                                (try clear HB)
                                generalize ((((w31.setCell ⟨gb233, 0, none⟩ (.int .i64 ((rd_T111 l0_1 x26_1).f0))).setCell ⟨gb233, 1, none⟩ (.int .i64 ((rd_T111 l0_1 x26_1).f1))).setCell ⟨gb233, 2, none⟩ (.int .i64 ((rd_T111 l0_1 x26_1).f2))).setCell ⟨gb233, 3, none⟩ (.string ((rd_T111 l0_1 x26_1).f3))) = w34 at n0_ n1_ n2_ ⊢
                                have BK229 := n0_
                                have BK233 := n1_
                                have HB := n2_
                                clear n0_ n1_ n2_
                                have n0_ := Aside0.mk (blk_drew BK229.out)
                                have n1_ := Aside0.mk (blk_drew BK233.out)
                                have n2_ := Aside0.mk (below_drew1 HB.out)
                                clear BK229
                                clear BK233
                                clear HB
                                have BK229 := n0_
                                have BK233 := n1_
                                have HB := n2_
                                clear n0_ n1_ n2_
                                refine start_ (n := 33) (S := fun w' => w'.cell? ⟨gb233, 0, none⟩ = some (.int .i64 ((rd_T111 l0_1 x26_1).f0)) ∧ w'.cell? ⟨gb233, 1, none⟩ = some (.int .i64 ((rd_T111 l0_1 x26_1).f1)) ∧ w'.cell? ⟨gb233, 2, none⟩ = some (.int .i64 ((rd_T111 l0_1 x26_1).f2)) ∧ w'.cell? ⟨gb233, 3, none⟩ = some (.string ((rd_T111 l0_1 x26_1).f3))) (ds := []) #[false, false, false, false, false, false, false, false, false, false, false, false, false, false, false, false, false, false, false, false, false, false, false, false, false, false, false, false, false, false, false, false, false] by7 rfl rfl ⟨(blk_cell BK233.out 0).trans rfl, (blk_cell BK233.out 1).trans rfl, (blk_cell BK233.out 2).trans rfl, (blk_cell BK233.out 3).trans rfl⟩ (fun hHeld => ?_); refine with_tabW impl_ElfText.tab8 impl_ElfText.bits8 (fun HT_ HW_ => ?_)
                                generalize w34.drew = w35 at BK229 BK233 HB hHeld ⊢
                                refine pure_ (i := 0) (N := some 30) (v := ?_) (a' := ?_) #[true, false, false, false, false, false, false, false, false, false, false, false, false, false, false, false, false, false, false, false, false, false, false, false, false, false, false, false, false, false, false, false, false] rfl rfl (any_of HT_.out by7) (fun _ _ _ h => h) (Or.inl ⟨by rfl, ?_⟩) ?_ ?_
                                rotate_left
                                · intro w'
                                  go_simp
                                  with_reducible rfl
                                rotate_left
                                · simp only [Act.put, List.setIfInBounds_toArray, List.set_cons_zero, List.set_cons_succ, i64_w, i32_w]
                                  rfl
                                refine pure_ (i := 2) (N := some 32) (v := ?_) (a' := ?_) #[true, false, true, false, false, false, false, false, false, false, false, false, false, false, false, false, false, false, false, false, false, false, false, false, false, false, false, false, false, false, false, false, false] rfl rfl (any_of HT_.out by7) (fun _ _ _ h => h) (Or.inl ⟨by rfl, ?_⟩) ?_ ?_
                                rotate_left
                                · intro w'
                                  go_simp
                                  with_reducible rfl
                                rotate_left
                                · simp only [Act.put, List.setIfInBounds_toArray, List.set_cons_zero, List.set_cons_succ, i64_w, i32_w]
                                  rfl
                                refine pure_ (i := 6) (N := some 36) (v := ?_) (a' := ?_) #[true, false, true, false, false, false, true, false, false, false, false, false, false, false, false, false, false, false, false, false, false, false, false, false, false, false, false, false, false, false, false, false, false] rfl rfl (any_of HT_.out by7) (fun _ _ _ h => h) (Or.inl ⟨by rfl, ?_⟩) ?_ ?_
                                rotate_left
                                · intro w'
                                  go_simp
                                  with_reducible rfl
                                rotate_left
                                · simp only [Act.put, List.setIfInBounds_toArray, List.set_cons_zero, List.set_cons_succ, i64_w, i32_w]
                                  rfl
                                refine pure_ (i := 7) (N := some 37) (v := ?_) (a' := ?_) #[true, false, true, false, false, false, true, true, false, false, false, false, false, false, false, false, false, false, false, false, false, false, false, false, false, false, false, false, false, false, false, false, false] rfl rfl (any_of HT_.out by7) (fun _ _ _ h => h) (Or.inl ⟨by rfl, ?_⟩) ?_ ?_
                                rotate_left
                                · intro w'
                                  go_simp
                                  with_reducible rfl
                                rotate_left
                                · simp only [Act.put, List.setIfInBounds_toArray, List.set_cons_zero, List.set_cons_succ, i64_w, i32_w]
                                  rfl
                                refine pure_ (i := 8) (N := some 38) (v := ?_) (a' := ?_) #[true, false, true, false, false, false, true, true, true, false, false, false, false, false, false, false, false, false, false, false, false, false, false, false, false, false, false, false, false, false, false, false, false] rfl rfl (any_of HT_.out by7) (fun _ _ _ h => h) (Or.inl ⟨by rfl, ?_⟩) ?_ ?_
                                rotate_left
                                · intro w'
                                  go_simp
                                  with_reducible rfl
                                rotate_left
                                · simp only [Act.put, List.setIfInBounds_toArray, List.set_cons_zero, List.set_cons_succ, i64_w, i32_w]
                                  rfl
                                refine pure_ (i := 9) (N := some 39) (v := ?_) (a' := ?_) #[true, false, true, false, false, false, true, true, true, true, false, false, false, false, false, false, false, false, false, false, false, false, false, false, false, false, false, false, false, false, false, false, false] rfl rfl (any_of HT_.out by7) (fun _ _ _ h => h) (Or.inl ⟨by rfl, ?_⟩) ?_ ?_
                                rotate_left
                                · intro w'
                                  go_simp
                                  with_reducible rfl
                                rotate_left
                                · simp only [Act.put, List.setIfInBounds_toArray, List.set_cons_zero, List.set_cons_succ, i64_w, i32_w]
                                  rfl
                                refine pure_ (i := 12) (N := some 42) (v := ?_) (a' := ?_) #[true, false, true, false, false, false, true, true, true, true, false, false, true, false, false, false, false, false, false, false, false, false, false, false, false, false, false, false, false, false, false, false, false] rfl rfl (any_of HT_.out by7) (fun _ _ _ h => h) (Or.inl ⟨by rfl, ?_⟩) ?_ ?_
                                rotate_left
                                · intro w'
                                  go_simp
                                  with_reducible rfl
                                rotate_left
                                · simp only [Act.put, List.setIfInBounds_toArray, List.set_cons_zero, List.set_cons_succ, i64_w, i32_w]
                                  rfl
                                refine pure_ (i := 16) (N := some 46) (v := ?_) (a' := ?_) #[true, false, true, false, false, false, true, true, true, true, false, false, true, false, false, false, true, false, false, false, false, false, false, false, false, false, false, false, false, false, false, false, false] rfl rfl (any_of HT_.out by7) (fun _ _ _ h => h) (Or.inl ⟨by rfl, ?_⟩) ?_ ?_
                                rotate_left
                                · intro w'
                                  go_simp
                                  with_reducible rfl
                                rotate_left
                                · simp only [Act.put, List.setIfInBounds_toArray, List.set_cons_zero, List.set_cons_succ, i64_w, i32_w]
                                  rfl
                                refine pure_ (i := 20) (N := some 50) (v := ?_) (a' := ?_) #[true, false, true, false, false, false, true, true, true, true, false, false, true, false, false, false, true, false, false, false, true, false, false, false, false, false, false, false, false, false, false, false, false] rfl rfl (any_of HT_.out by7) (fun _ _ _ h => h) (Or.inl ⟨by rfl, ?_⟩) ?_ ?_
                                rotate_left
                                · intro w'
                                  go_simp
                                  with_reducible rfl
                                rotate_left
                                · simp only [Act.put, List.setIfInBounds_toArray, List.set_cons_zero, List.set_cons_succ, i64_w, i32_w]
                                  rfl
                                refine pure_ (i := 25) (N := some 55) (v := ?_) (a' := ?_) #[true, false, true, false, false, false, true, true, true, true, false, false, true, false, false, false, true, false, false, false, true, false, false, false, false, true, false, false, false, false, false, false, false] rfl rfl (any_of HT_.out by7) (fun _ _ _ h => h) (Or.inl ⟨by rfl, ?_⟩) ?_ ?_
                                rotate_left
                                · intro w'
                                  go_simp
                                  with_reducible rfl
                                rotate_left
                                · simp only [Act.put, List.setIfInBounds_toArray, List.set_cons_zero, List.set_cons_succ, i64_w, i32_w]
                                  rfl
                                refine take_ (i := 3) (N := some 33) (v := ?_) (a' := ?_) #[true, false, true, true, false, false, true, true, true, true, false, false, true, false, false, false, true, false, false, false, true, false, false, false, false, true, false, false, false, false, false, false, false] rfl rfl (take_ofW HT_.out HW_.out by7) (fun _ _ _ h => h) (Or.inl ⟨by rfl, ?_⟩) hHeld ?_ ?_
                                rotate_left
                                · rintro w' ⟨s0, s1, s2, s3⟩
                                  go_simp
                                  with_reducible rfl
                                rotate_left
                                · simp only [Act.put, List.setIfInBounds_toArray, List.set_cons_zero, List.set_cons_succ, i64_w, i32_w]
                                  rfl
                                refine take_ (i := 13) (N := some 43) (v := ?_) (a' := ?_) #[true, false, true, true, false, false, true, true, true, true, false, false, true, true, false, false, true, false, false, false, true, false, false, false, false, true, false, false, false, false, false, false, false] rfl rfl (take_ofW HT_.out HW_.out by7) (fun _ _ _ h => h) (Or.inl ⟨by rfl, ?_⟩) hHeld ?_ ?_
                                rotate_left
                                · rintro w' ⟨s0, s1, s2, s3⟩
                                  go_simp
                                  with_reducible rfl
                                rotate_left
                                · simp only [Act.put, List.setIfInBounds_toArray, List.set_cons_zero, List.set_cons_succ, i64_w, i32_w]
                                  rfl
                                refine take_ (i := 17) (N := some 47) (v := ?_) (a' := ?_) #[true, false, true, true, false, false, true, true, true, true, false, false, true, true, false, false, true, true, false, false, true, false, false, false, false, true, false, false, false, false, false, false, false] rfl rfl (take_ofW HT_.out HW_.out by7) (fun _ _ _ h => h) (Or.inl ⟨by rfl, ?_⟩) hHeld ?_ ?_
                                rotate_left
                                · rintro w' ⟨s0, s1, s2, s3⟩
                                  go_simp
                                  with_reducible rfl
                                rotate_left
                                · simp only [Act.put, List.setIfInBounds_toArray, List.set_cons_zero, List.set_cons_succ, i64_w, i32_w]
                                  rfl
                                refine take_ (i := 21) (N := some 51) (v := ?_) (a' := ?_) #[true, false, true, true, false, false, true, true, true, true, false, false, true, true, false, false, true, true, false, false, true, true, false, false, false, true, false, false, false, false, false, false, false] rfl rfl (take_ofW HT_.out HW_.out by7) (fun _ _ _ h => h) (Or.inl ⟨by rfl, ?_⟩) hHeld ?_ ?_
                                rotate_left
                                · rintro w' ⟨s0, s1, s2, s3⟩
                                  go_simp
                                  with_reducible rfl
                                rotate_left
                                · simp only [Act.put, List.setIfInBounds_toArray, List.set_cons_zero, List.set_cons_succ, i64_w, i32_w]
                                  rfl
                                refine pure_ (i := 22) (N := some 52) (v := ?_) (a' := ?_) #[true, false, true, true, false, false, true, true, true, true, false, false, true, true, false, false, true, true, false, false, true, true, true, false, false, true, false, false, false, false, false, false, false] rfl rfl (any_of HT_.out by7) (fun _ _ _ h => h) (Or.inl ⟨by rfl, ?_⟩) ?_ ?_
                                rotate_left
                                · intro w'
                                  go_simp
                                  with_reducible rfl
                                rotate_left
                                · simp only [Act.put, List.setIfInBounds_toArray, List.set_cons_zero, List.set_cons_succ, i64_w, i32_w]
                                  rfl
                                refine take_ (i := 26) (N := some 56) (v := ?_) (a' := ?_) #[true, false, true, true, false, false, true, true, true, true, false, false, true, true, false, false, true, true, false, false, true, true, true, false, false, true, true, false, false, false, false, false, false] rfl rfl (take_ofW HT_.out HW_.out by7) (fun _ _ _ h => h) (Or.inl ⟨by rfl, ?_⟩) hHeld ?_ ?_
                                rotate_left
                                · rintro w' ⟨s0, s1, s2, s3⟩
                                  go_simp
                                  with_reducible rfl
                                rotate_left
                                · simp only [Act.put, List.setIfInBounds_toArray, List.set_cons_zero, List.set_cons_succ, i64_w, i32_w]
                                  rfl
                                refine one_ (i := 1) (N := some 31) #[true, true, true, true, false, false, true, true, true, true, false, false, true, true, false, false, true, true, false, false, true, true, true, false, false, true, true, false, false, false, false, false, false] rfl rfl (one_of HT_.out by7) (by decide) (fun K hK => ?_)
                                refine goes_ Try.func124 by7 rfl #[.int .i64 1, .int .i64 4] (by rfl) rfl rfl by2 ?_
                                with_reducible refine (impl_little.calls k1 1 4 t234 _ A14.out).mono ?_
                                rintro e w36 ⟨rfl, hb⟩
                                refine ⟨_, rfl, ?_⟩
                                have n0_ := Aside0.mk (blk_below (g := gb229) (o := .cells #[.int .i64 a0_0, .slice (some ad232) l0_1.length c0_1] 29 (0, 0)) by24 hb)
                                have n1_ := Aside0.mk (blk_below (g := gb233) (o := .cells #[.int .i64 ((rd_T111 l0_1 x26_1).f0), .int .i64 ((rd_T111 l0_1 x26_1).f1), .int .i64 ((rd_T111 l0_1 x26_1).f2), .string ((rd_T111 l0_1 x26_1).f3)] 111 (0, 0)) by35 hb)
                                have n2_ := Aside0.mk (below_step by20 hb)
                                clear BK229
                                clear BK233
                                clear HB
                                have BK229 := n0_
                                have BK233 := n1_
                                have HB := n2_
                                clear n0_ n1_ n2_
                                (try clear hb)
                                (try clear hb2)
                                (try clear hk)
                                (try clear hi)
                                refine hK.out _ _ ⟨(blk_cell BK233.out 0).trans rfl, (blk_cell BK233.out 1).trans rfl, (blk_cell BK233.out 2).trans rfl, (blk_cell BK233.out 3).trans rfl⟩ (fun hHeld => ?_)
                                clear hK K
                                refine norm_ (a' := ?_) ?_ ?_
                                rotate_left
                                · show Act.put _ (some 31) _ = _
                                  simp only [Act.put, List.setIfInBounds_toArray, List.set_cons_zero, List.set_cons_succ, i64_w, i32_w]
                                  rfl
                                refine one_ (i := 4) (N := some 34) #[true, true, true, true, true, false, true, true, true, true, false, false, true, true, false, false, true, true, false, false, true, true, true, false, false, true, true, false, false, false, false, false, false] rfl rfl (one_of HT_.out by7) (by decide) (fun K hK => ?_)
                                refine goes_ Try.func124 by7 rfl #[.int .i64 ((rd_T111 l0_1 x26_1).f0), .int .i64 4] (by rfl) rfl rfl by2 ?_
                                with_reducible refine (impl_little.calls k1 ((rd_T111 l0_1 x26_1).f0) 4 t235 _ A15.out).mono ?_
                                rintro e w37 ⟨rfl, hb⟩
                                refine ⟨_, rfl, ?_⟩
                                have n0_ := Aside0.mk (blk_below (g := gb229) (o := .cells #[.int .i64 a0_0, .slice (some ad232) l0_1.length c0_1] 29 (0, 0)) by24 hb)
                                have n1_ := Aside0.mk (blk_below (g := gb233) (o := .cells #[.int .i64 ((rd_T111 l0_1 x26_1).f0), .int .i64 ((rd_T111 l0_1 x26_1).f1), .int .i64 ((rd_T111 l0_1 x26_1).f2), .string ((rd_T111 l0_1 x26_1).f3)] 111 (0, 0)) by35 hb)
                                have n2_ := Aside0.mk (below_step by20 hb)
                                clear BK229
                                clear BK233
                                clear HB
                                have BK229 := n0_
                                have BK233 := n1_
                                have HB := n2_
                                clear n0_ n1_ n2_
                                (try clear hb)
                                (try clear hb2)
                                (try clear hk)
                                (try clear hi)
                                refine hK.out _ _ ⟨(blk_cell BK233.out 0).trans rfl, (blk_cell BK233.out 1).trans rfl, (blk_cell BK233.out 2).trans rfl, (blk_cell BK233.out 3).trans rfl⟩ (fun hHeld => ?_)
                                clear hK K
                                refine norm_ (a' := ?_) ?_ ?_
                                rotate_left
                                · show Act.put _ (some 34) _ = _
                                  simp only [Act.put, List.setIfInBounds_toArray, List.set_cons_zero, List.set_cons_succ, i64_w, i32_w]
                                  rfl
                                refine pure_ (i := 5) (N := some 35) (v := ?_) (a' := ?_) #[true, true, true, true, true, true, true, true, true, true, false, false, true, true, false, false, true, true, false, false, true, true, true, false, false, true, true, false, false, false, false, false, false] rfl rfl (any_of HT_.out by7) (fun _ _ _ h => h) (Or.inl ⟨by rfl, ?_⟩) ?_ ?_
                                rotate_left
                                · intro w'
                                  go_simp
                                  with_reducible rfl
                                rotate_left
                                · simp only [Act.put, List.setIfInBounds_toArray, List.set_cons_zero, List.set_cons_succ, i64_w, i32_w]
                                  rfl
                                refine one_ (i := 10) (N := some 40) #[true, true, true, true, true, true, true, true, true, true, true, false, true, true, false, false, true, true, false, false, true, true, true, false, false, true, true, false, false, false, false, false, false] rfl rfl (one_of HT_.out by7) (by decide) (fun K hK => ?_)
                                refine goes_ Try.func124 by7 rfl #[.int .i64 (wrap64 ((wrap64 (64 + (wrap64 (56 * (l0_1.length : Int))))) + (x5_1.size : Int))), .int .i64 8] (by rfl) rfl rfl by2 ?_
                                with_reducible refine (impl_little.calls k1 (wrap64 ((wrap64 (64 + (wrap64 (56 * (l0_1.length : Int))))) + (x5_1.size : Int))) 8 t236 _ A17.out).mono ?_
                                rintro e w38 ⟨rfl, hb⟩
                                refine ⟨_, rfl, ?_⟩
                                have n0_ := Aside0.mk (blk_below (g := gb229) (o := .cells #[.int .i64 a0_0, .slice (some ad232) l0_1.length c0_1] 29 (0, 0)) by24 hb)
                                have n1_ := Aside0.mk (blk_below (g := gb233) (o := .cells #[.int .i64 ((rd_T111 l0_1 x26_1).f0), .int .i64 ((rd_T111 l0_1 x26_1).f1), .int .i64 ((rd_T111 l0_1 x26_1).f2), .string ((rd_T111 l0_1 x26_1).f3)] 111 (0, 0)) by35 hb)
                                have n2_ := Aside0.mk (below_step by20 hb)
                                clear BK229
                                clear BK233
                                clear HB
                                have BK229 := n0_
                                have BK233 := n1_
                                have HB := n2_
                                clear n0_ n1_ n2_
                                (try clear hb)
                                (try clear hb2)
                                (try clear hk)
                                (try clear hi)
                                refine hK.out _ _ ⟨(blk_cell BK233.out 0).trans rfl, (blk_cell BK233.out 1).trans rfl, (blk_cell BK233.out 2).trans rfl, (blk_cell BK233.out 3).trans rfl⟩ (fun hHeld => ?_)
                                clear hK K
                                refine norm_ (a' := ?_) ?_ ?_
                                rotate_left
                                · show Act.put _ (some 40) _ = _
                                  simp only [Act.put, List.setIfInBounds_toArray, List.set_cons_zero, List.set_cons_succ, i64_w, i32_w]
                                  rfl
                                refine pure_ (i := 11) (N := some 41) (v := ?_) (a' := ?_) #[true, true, true, true, true, true, true, true, true, true, true, true, true, true, false, false, true, true, false, false, true, true, true, false, false, true, true, false, false, false, false, false, false] rfl rfl (any_of HT_.out by7) (fun _ _ _ h => h) (Or.inl ⟨by rfl, ?_⟩) ?_ ?_
                                rotate_left
                                · intro w'
                                  go_simp
                                  with_reducible rfl
                                rotate_left
                                · simp only [Act.put, List.setIfInBounds_toArray, List.set_cons_zero, List.set_cons_succ, i64_w, i32_w]
                                  rfl
                                refine one_ (i := 14) (N := some 44) #[true, true, true, true, true, true, true, true, true, true, true, true, true, true, true, false, true, true, false, false, true, true, true, false, false, true, true, false, false, false, false, false, false] rfl rfl (one_of HT_.out by7) (by decide) (fun K hK => ?_)
                                refine goes_ Try.func124 by7 rfl #[.int .i64 ((rd_T111 l0_1 x26_1).f1), .int .i64 8] (by rfl) rfl rfl by2 ?_
                                with_reducible refine (impl_little.calls k1 ((rd_T111 l0_1 x26_1).f1) 8 t237 _ A19.out).mono ?_
                                rintro e w39 ⟨rfl, hb⟩
                                refine ⟨_, rfl, ?_⟩
                                have n0_ := Aside0.mk (blk_below (g := gb229) (o := .cells #[.int .i64 a0_0, .slice (some ad232) l0_1.length c0_1] 29 (0, 0)) by24 hb)
                                have n1_ := Aside0.mk (blk_below (g := gb233) (o := .cells #[.int .i64 ((rd_T111 l0_1 x26_1).f0), .int .i64 ((rd_T111 l0_1 x26_1).f1), .int .i64 ((rd_T111 l0_1 x26_1).f2), .string ((rd_T111 l0_1 x26_1).f3)] 111 (0, 0)) by35 hb)
                                have n2_ := Aside0.mk (below_step by20 hb)
                                clear BK229
                                clear BK233
                                clear HB
                                have BK229 := n0_
                                have BK233 := n1_
                                have HB := n2_
                                clear n0_ n1_ n2_
                                (try clear hb)
                                (try clear hb2)
                                (try clear hk)
                                (try clear hi)
                                refine hK.out _ _ ⟨(blk_cell BK233.out 0).trans rfl, (blk_cell BK233.out 1).trans rfl, (blk_cell BK233.out 2).trans rfl, (blk_cell BK233.out 3).trans rfl⟩ (fun hHeld => ?_)
                                clear hK K
                                refine norm_ (a' := ?_) ?_ ?_
                                rotate_left
                                · show Act.put _ (some 44) _ = _
                                  simp only [Act.put, List.setIfInBounds_toArray, List.set_cons_zero, List.set_cons_succ, i64_w, i32_w]
                                  rfl
                                refine pure_ (i := 15) (N := some 45) (v := ?_) (a' := ?_) #[true, true, true, true, true, true, true, true, true, true, true, true, true, true, true, true, true, true, false, false, true, true, true, false, false, true, true, false, false, false, false, false, false] rfl rfl (any_of HT_.out by7) (fun _ _ _ h => h) (Or.inl ⟨by rfl, ?_⟩) ?_ ?_
                                rotate_left
                                · intro w'
                                  go_simp
                                  with_reducible rfl
                                rotate_left
                                · simp only [Act.put, List.setIfInBounds_toArray, List.set_cons_zero, List.set_cons_succ, i64_w, i32_w]
                                  rfl
                                refine one_ (i := 18) (N := some 48) #[true, true, true, true, true, true, true, true, true, true, true, true, true, true, true, true, true, true, true, false, true, true, true, false, false, true, true, false, false, false, false, false, false] rfl rfl (one_of HT_.out by7) (by decide) (fun K hK => ?_)
                                refine goes_ Try.func124 by7 rfl #[.int .i64 ((rd_T111 l0_1 x26_1).f1), .int .i64 8] (by rfl) rfl rfl by2 ?_
                                with_reducible refine (impl_little.calls k1 ((rd_T111 l0_1 x26_1).f1) 8 t238 _ A21.out).mono ?_
                                rintro e w40 ⟨rfl, hb⟩
                                refine ⟨_, rfl, ?_⟩
                                have n0_ := Aside0.mk (blk_below (g := gb229) (o := .cells #[.int .i64 a0_0, .slice (some ad232) l0_1.length c0_1] 29 (0, 0)) by24 hb)
                                have n1_ := Aside0.mk (blk_below (g := gb233) (o := .cells #[.int .i64 ((rd_T111 l0_1 x26_1).f0), .int .i64 ((rd_T111 l0_1 x26_1).f1), .int .i64 ((rd_T111 l0_1 x26_1).f2), .string ((rd_T111 l0_1 x26_1).f3)] 111 (0, 0)) by35 hb)
                                have n2_ := Aside0.mk (below_step by20 hb)
                                clear BK229
                                clear BK233
                                clear HB
                                have BK229 := n0_
                                have BK233 := n1_
                                have HB := n2_
                                clear n0_ n1_ n2_
                                (try clear hb)
                                (try clear hb2)
                                (try clear hk)
                                (try clear hi)
                                refine hK.out _ _ ⟨(blk_cell BK233.out 0).trans rfl, (blk_cell BK233.out 1).trans rfl, (blk_cell BK233.out 2).trans rfl, (blk_cell BK233.out 3).trans rfl⟩ (fun hHeld => ?_)
                                clear hK K
                                refine norm_ (a' := ?_) ?_ ?_
                                rotate_left
                                · show Act.put _ (some 48) _ = _
                                  simp only [Act.put, List.setIfInBounds_toArray, List.set_cons_zero, List.set_cons_succ, i64_w, i32_w]
                                  rfl
                                refine pure_ (i := 19) (N := some 49) (v := ?_) (a' := ?_) #[true, true, true, true, true, true, true, true, true, true, true, true, true, true, true, true, true, true, true, true, true, true, true, false, false, true, true, false, false, false, false, false, false] rfl rfl (any_of HT_.out by7) (fun _ _ _ h => h) (Or.inl ⟨by rfl, ?_⟩) ?_ ?_
                                rotate_left
                                · intro w'
                                  go_simp
                                  with_reducible rfl
                                rotate_left
                                · simp only [Act.put, List.setIfInBounds_toArray, List.set_cons_zero, List.set_cons_succ, i64_w, i32_w]
                                  rfl
                                refine one_ (i := 23) (N := some 53) #[true, true, true, true, true, true, true, true, true, true, true, true, true, true, true, true, true, true, true, true, true, true, true, true, false, true, true, false, false, false, false, false, false] rfl rfl (one_of HT_.out by7) (by decide) (fun K hK => ?_)
                                refine goes_ Try.func124 by7 rfl #[.int .i64 (((rd_T111 l0_1 x26_1).f3).size : Int), .int .i64 8] (by rfl) rfl rfl by2 ?_
                                with_reducible refine (impl_little.calls k1 (((rd_T111 l0_1 x26_1).f3).size : Int) 8 t239 _ A23.out).mono ?_
                                rintro e w41 ⟨rfl, hb⟩
                                refine ⟨_, rfl, ?_⟩
                                have n0_ := Aside0.mk (blk_below (g := gb229) (o := .cells #[.int .i64 a0_0, .slice (some ad232) l0_1.length c0_1] 29 (0, 0)) by24 hb)
                                have n1_ := Aside0.mk (blk_below (g := gb233) (o := .cells #[.int .i64 ((rd_T111 l0_1 x26_1).f0), .int .i64 ((rd_T111 l0_1 x26_1).f1), .int .i64 ((rd_T111 l0_1 x26_1).f2), .string ((rd_T111 l0_1 x26_1).f3)] 111 (0, 0)) by35 hb)
                                have n2_ := Aside0.mk (below_step by20 hb)
                                clear BK229
                                clear BK233
                                clear HB
                                have BK229 := n0_
                                have BK233 := n1_
                                have HB := n2_
                                clear n0_ n1_ n2_
                                (try clear hb)
                                (try clear hb2)
                                (try clear hk)
                                (try clear hi)
                                refine hK.out _ _ ⟨(blk_cell BK233.out 0).trans rfl, (blk_cell BK233.out 1).trans rfl, (blk_cell BK233.out 2).trans rfl, (blk_cell BK233.out 3).trans rfl⟩ (fun hHeld => ?_)
                                clear hK K
                                refine norm_ (a' := ?_) ?_ ?_
                                rotate_left
                                · show Act.put _ (some 53) _ = _
                                  simp only [Act.put, List.setIfInBounds_toArray, List.set_cons_zero, List.set_cons_succ, i64_w, i32_w]
                                  rfl
                                refine pure_ (i := 24) (N := some 54) (v := ?_) (a' := ?_) #[true, true, true, true, true, true, true, true, true, true, true, true, true, true, true, true, true, true, true, true, true, true, true, true, true, true, true, false, false, false, false, false, false] rfl rfl (any_of HT_.out by7) (fun _ _ _ h => h) (Or.inl ⟨by rfl, ?_⟩) ?_ ?_
                                rotate_left
                                · intro w'
                                  go_simp
                                  with_reducible rfl
                                rotate_left
                                · simp only [Act.put, List.setIfInBounds_toArray, List.set_cons_zero, List.set_cons_succ, i64_w, i32_w]
                                  rfl
                                refine one_ (i := 27) (N := some 57) #[true, true, true, true, true, true, true, true, true, true, true, true, true, true, true, true, true, true, true, true, true, true, true, true, true, true, true, true, false, false, false, false, false] rfl rfl (one_of HT_.out by7) (by decide) (fun K hK => ?_)
                                refine goes_ Try.func124 by7 rfl #[.int .i64 ((rd_T111 l0_1 x26_1).f2), .int .i64 8] (by rfl) rfl rfl by2 ?_
                                with_reducible refine (impl_little.calls k1 ((rd_T111 l0_1 x26_1).f2) 8 t240 _ A25.out).mono ?_
                                rintro e w42 ⟨rfl, hb⟩
                                refine ⟨_, rfl, ?_⟩
                                have n0_ := Aside0.mk (blk_below (g := gb229) (o := .cells #[.int .i64 a0_0, .slice (some ad232) l0_1.length c0_1] 29 (0, 0)) by24 hb)
                                have n1_ := Aside0.mk (blk_below (g := gb233) (o := .cells #[.int .i64 ((rd_T111 l0_1 x26_1).f0), .int .i64 ((rd_T111 l0_1 x26_1).f1), .int .i64 ((rd_T111 l0_1 x26_1).f2), .string ((rd_T111 l0_1 x26_1).f3)] 111 (0, 0)) by35 hb)
                                have n2_ := Aside0.mk (below_step by20 hb)
                                clear BK229
                                clear BK233
                                clear HB
                                have BK229 := n0_
                                have BK233 := n1_
                                have HB := n2_
                                clear n0_ n1_ n2_
                                (try clear hb)
                                (try clear hb2)
                                (try clear hk)
                                (try clear hi)
                                refine hK.out _ _ ⟨(blk_cell BK233.out 0).trans rfl, (blk_cell BK233.out 1).trans rfl, (blk_cell BK233.out 2).trans rfl, (blk_cell BK233.out 3).trans rfl⟩ (fun hHeld => ?_)
                                clear hK K
                                refine norm_ (a' := ?_) ?_ ?_
                                rotate_left
                                · show Act.put _ (some 57) _ = _
                                  simp only [Act.put, List.setIfInBounds_toArray, List.set_cons_zero, List.set_cons_succ, i64_w, i32_w]
                                  rfl
                                refine pure_ (i := 28) (N := some 58) (v := ?_) (a' := ?_) #[true, true, true, true, true, true, true, true, true, true, true, true, true, true, true, true, true, true, true, true, true, true, true, true, true, true, true, true, true, false, false, false, false] rfl rfl (any_of HT_.out by7) (fun _ _ _ h => h) (Or.inl ⟨by rfl, ?_⟩) ?_ ?_
                                rotate_left
                                · intro w'
                                  go_simp
                                  with_reducible rfl
                                rotate_left
                                · simp only [Act.put, List.setIfInBounds_toArray, List.set_cons_zero, List.set_cons_succ, i64_w, i32_w]
                                  rfl
                                refine one_ (i := 29) (N := some 59) #[true, true, true, true, true, true, true, true, true, true, true, true, true, true, true, true, true, true, true, true, true, true, true, true, true, true, true, true, true, true, false, false, false] rfl rfl (one_of HT_.out by7) (by decide) (fun K hK => ?_)
                                refine goes_ Try.func124 by7 rfl #[.int .i64 256, .int .i64 8] (by rfl) rfl rfl by2 ?_
                                with_reducible refine (impl_little.calls k1 256 8 t241 _ A27.out).mono ?_
                                rintro e w43 ⟨rfl, hb⟩
                                refine ⟨_, rfl, ?_⟩
                                have n0_ := Aside0.mk (blk_below (g := gb229) (o := .cells #[.int .i64 a0_0, .slice (some ad232) l0_1.length c0_1] 29 (0, 0)) by24 hb)
                                have n1_ := Aside0.mk (blk_below (g := gb233) (o := .cells #[.int .i64 ((rd_T111 l0_1 x26_1).f0), .int .i64 ((rd_T111 l0_1 x26_1).f1), .int .i64 ((rd_T111 l0_1 x26_1).f2), .string ((rd_T111 l0_1 x26_1).f3)] 111 (0, 0)) by35 hb)
                                have n2_ := Aside0.mk (below_step by20 hb)
                                clear BK229
                                clear BK233
                                clear HB
                                have BK229 := n0_
                                have BK233 := n1_
                                have HB := n2_
                                clear n0_ n1_ n2_
                                (try clear hb)
                                (try clear hb2)
                                (try clear hk)
                                (try clear hi)
                                refine hK.out _ _ ⟨(blk_cell BK233.out 0).trans rfl, (blk_cell BK233.out 1).trans rfl, (blk_cell BK233.out 2).trans rfl, (blk_cell BK233.out 3).trans rfl⟩ (fun hHeld => ?_)
                                clear hK K
                                refine norm_ (a' := ?_) ?_ ?_
                                rotate_left
                                · show Act.put _ (some 59) _ = _
                                  simp only [Act.put, List.setIfInBounds_toArray, List.set_cons_zero, List.set_cons_succ, i64_w, i32_w]
                                  rfl
                                refine pure_ (i := 30) (N := some 60) (v := ?_) (a' := ?_) #[true, true, true, true, true, true, true, true, true, true, true, true, true, true, true, true, true, true, true, true, true, true, true, true, true, true, true, true, true, true, true, false, false] rfl rfl (any_of HT_.out by7) (fun _ _ _ h => h) (Or.inl ⟨by rfl, ?_⟩) ?_ ?_
                                rotate_left
                                · intro w'
                                  go_simp
                                  with_reducible rfl
                                rotate_left
                                · simp only [Act.put, List.setIfInBounds_toArray, List.set_cons_zero, List.set_cons_succ, i64_w, i32_w]
                                  rfl
                                refine pure_ (i := 31) (N := some 61) (v := ?_) (a' := ?_) #[true, true, true, true, true, true, true, true, true, true, true, true, true, true, true, true, true, true, true, true, true, true, true, true, true, true, true, true, true, true, true, true, false] rfl rfl (any_of HT_.out by7) (fun _ _ _ h => h) (Or.inl ⟨by rfl, ?_⟩) ?_ ?_
                                rotate_left
                                · intro w'
                                  go_simp
                                  with_reducible rfl
                                rotate_left
                                · simp only [Act.put, List.setIfInBounds_toArray, List.set_cons_zero, List.set_cons_succ, i64_w, i32_w]
                                  rfl
                                refine pure_ (i := 32) (N := some 4) (v := ?_) (a' := ?_) #[true, true, true, true, true, true, true, true, true, true, true, true, true, true, true, true, true, true, true, true, true, true, true, true, true, true, true, true, true, true, true, true, true] rfl rfl (any_of HT_.out by7) (fun _ _ _ h => h) (Or.inl ⟨by rfl, ?_⟩) ?_ ?_
                                rotate_left
                                · intro w'
                                  go_simp
                                  with_reducible rfl
                                rotate_left
                                · simp only [Act.put, List.setIfInBounds_toArray, List.set_cons_zero, List.set_cons_succ, i64_w, i32_w]
                                  rfl
                                refine done_ (done_of HT_.out by7) ?_
                                have hcz44_0 : w43.cell? ⟨gb233, 0, none⟩ = some (.int .i64 ((rd_T111 l0_1 x26_1).f0)) := (blk_cell BK233.out 0).trans rfl
                                have hcz44_1 : w43.cell? ⟨gb233, 1, none⟩ = some (.int .i64 ((rd_T111 l0_1 x26_1).f1)) := (blk_cell BK233.out 1).trans rfl
                                have hcz44_2 : w43.cell? ⟨gb233, 2, none⟩ = some (.int .i64 ((rd_T111 l0_1 x26_1).f2)) := (blk_cell BK233.out 2).trans rfl
                                have hcz44_3 : w43.cell? ⟨gb233, 3, none⟩ = some (.string ((rd_T111 l0_1 x26_1).f3)) := (blk_cell BK233.out 3).trans rfl
                                have hfz44_0 := blk_frozen BK233.out 0
                                have hfz44_1 := blk_frozen BK233.out 1
                                have hfz44_2 := blk_frozen BK233.out 2
                                have hfz44_3 := blk_frozen BK233.out 3
                                try go_wp2
                                go_roundg k1
                                case measure => have := HK1.out; omega
                                case rel => exact ⟨(x4_1 ++ (((((((t234 ++ t235) ++ t236) ++ t237) ++ t238) ++ t239) ++ t240) ++ t241)), (x5_1 ++ ((rd_T111 l0_1 x26_1).f3)), (wrap64 (x26_1 + 1)), by9, by9, by9, H', ⟨by have := HK1.out; omega⟩, ⟨by (with_reducible repeat (first | refine blk_drewN ?_ _ | refine blk_drew ?_ | refine blk_alloc ?_ _)); exact BK229.out⟩, ⟨by repeat (first | (with_reducible first | exact HB.out | apply below_alloc | apply pw_below_drewN | apply below_drew1 | refine below_set ?_ GE229.out | refine below_set ?_ GE233.out) | exact HB.out)⟩⟩
                              · rw [if_neg c30] at H
                                exact absurd H (by simp)
                            · rw [if_neg c29] at H
                              exact absurd H (by simp)
                          · rw [if_neg c28] at H
                            exact absurd H (by simp)
                        · rw [if_neg c26] at H
                          exact absurd H (by simp)
                      · rw [if_neg c24] at H
                        exact absurd H (by simp)
                    · rw [if_neg c22] at H
                      exact absurd H (by simp)
                  · rw [if_neg c20] at H
                    exact absurd H (by simp)
                · rw [if_neg c18] at H
                  exact absurd H (by simp)
              · rw [if_neg c16] at H
                exact absurd H (by simp)
            · rw [if_neg c13] at H
              exact absurd H (by simp)
          · rw [if_neg c12] at H
            exact absurd H (by simp)
        · rw [if_neg c11] at H
          have c11b0 : decide (x26_1 < (l0_1.length : Int)) = false := decide_eq_false c11
          clear c11
          by_cases c45 : x4_1.size + x5_1.size ≤ 9223372036854775807
          · rw [if_pos c45] at H
            have c45b0 := eq_true c45
            have c45b1 : decide (x4_1.size + x5_1.size ≤ 9223372036854775807) = true := decide_eq_true c45
            try have c45b2 : (9223372036854775807 < x4_1.size + x5_1.size) = False := eq_false (Nat.not_lt.2 c45)
            simp only [Option.some.injEq, Prod.mk.injEq] at H
            obtain ⟨rfl, rfl⟩ := H
            go_wp2
            go_ret2
            exact ⟨by first | rfl | (simp [errW_none, errW_some] <;> rfl) | (simp [*, errW_none, errW_some] <;> rfl), by repeat (first | (with_reducible first | exact HB.out | apply below_alloc | apply pw_below_drewN | apply below_drew1 | refine below_set ?_ GE229.out) | exact HB.out)⟩
          · rw [if_neg c45] at H
            exact absurd H (by simp)
  · replace c3 := Bool.eq_false_iff.mpr c3
    subst c3
    have H1 : (some ((⟨#[]⟩ : ByteArray), 1)) = some (r1, r2) := by rw [if_neg (show ¬ (false = true) by decide)] at H; exact H
    clear H
    have H := H1
    clear H1
    simp only [Option.some.injEq, Prod.mk.injEq] at H
    obtain ⟨rfl, rfl⟩ := H
    go_enter Try.func49, Try.ntmps49
    go_wp2_with (first | ((with_reducible refine gate_dst (N := 1) rfl ?_); refine box_event ?hg (N := 1) ?hd (cs := #[.int .i64 a0_0, .slice A0_1 l0_1.length c0_1]) (t := 29) ?hr ?_; (case hd => rfl); (case hg => rfl); (case hr => first | (go_simp; done) | (go_simp; rfl)); intro gb229 hg w46 hbox hb; have n0_ := Aside0.mk (below_step by1 hb); have n1_ := Aside0.mk (hbox); have n2_ := Aside0.mk ((by0 : w.heap.size ≤ gb229)); have n3_ := Aside0.mk ((by0 : w.heap.size ≤ gb229)); clear HB; have HB := n0_; have BK229 := n1_; have GW229 := n2_; have GE229 := n3_; clear n0_ n1_ n2_ n3_; clear hb hbox hg; have hcz47_0 : w46.cell? ⟨gb229, 0, none⟩ = some (.int .i64 a0_0) := (blk_cell BK229.out 0).trans rfl; have hcz47_1 : w46.cell? ⟨gb229, 1, none⟩ = some (.slice A0_1 l0_1.length c0_1) := (blk_cell BK229.out 1).trans rfl; have hfz47_0 := blk_frozen BK229.out 0; have hfz47_1 := blk_frozen BK229.out 1) | ((with_reducible refine gate_callee (f := 76) rfl ?_); refine goesL_ (some 10) rfl rfl Try.func76 by7 rfl #[.agg #[.int .i64 a0_0, .slice A0_1 l0_1.length c0_1]] rfl by2 ?_; (with_reducible refine (impl_ImageOK.calls k a0_0 _ _ l0_1 false _ ?side1 ?side2 A2.out).mono ?_); (case side1 => repeat (first | exact (Kd.C_below HR0_1.out HB.out) | (with_reducible refine Kd.C_alloc ?_ _) | (with_reducible refine Kd.C_drewN ?_ _) | (with_reducible refine Kd.C_drew ?_))); (case side2 => exact HC0_1.out); rintro e w48 ⟨rfl, hb⟩; refine ⟨_, rfl, ?_⟩; have n0_ := Aside0.mk (blk_below (g := gb229) (o := .cells #[.int .i64 a0_0, .slice A0_1 l0_1.length c0_1] 29 (0, 0)) by24 hb); have n1_ := Aside0.mk (below_step by44 hb); clear BK229; clear HB; have BK229 := n0_; have HB := n1_; clear n0_ n1_; (try clear hb); (try clear hb2); (try clear hk); (try clear hi)))
    go_ret2
    exact ⟨by first | rfl | (simp [errW_none, errW_some] <;> rfl) | (simp [*, errW_none, errW_some] <;> rfl), by repeat (first | (with_reducible first | exact HB.out | apply below_alloc | apply pw_below_drewN | apply below_drew1 | refine below_set ?_ GE229.out) | exact HB.out)⟩

end Go.Proofs.Ytigoabhkdipdeaa.PFnExactElfText
