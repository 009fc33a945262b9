/- Laid by a program of this session (patch_print.py) out of the translation: plain functions and what the calls do. No condition. -/
import Derived.Test.YtoohimpbckpiaaaPFnExactStmtOKx0
import Derived.Test.YtoohimpbckpiaaaPFnExactStmtOKx1
namespace Go.Proofs.Ytoohimpbckpiaaa.PFnExactStmtOK
open Go.RowKit Go.Proofs.YtoohimpbckpiaaaW.PrintWords Go.Proofs.YtoohimpbckpiaaaW.PrintLast Go.Proofs.YtoohimpbckpiaaaW.PrintMore
attribute [local go_sem] max2_int min2_int max_two min_two max_three min_three max_four min_four   -- for this text's walks alone
set_option linter.unusedVariables false
set_option linter.unusedSimpArgs false

/-! ### spec_StmtOK: function 26 -/
mutual
def spec_StmtOK.j0 : Nat → Bool → Bool → Int → Int → Int → Int → Option (Bool)
  | 0, _, _, _, _, _, _ => none
  | k + 1, x3, x4, x107000, x107001, x107002, x107003 => (some (x107000 == 1)).bind fun t109 => (if t109 = true then (spec_StmtOK.j1 k x3 x4 x107000 t109 x107000 x107001 x107002 x107003) else ((some (x107000 == 10)).bind fun t110 => (if t110 = true then (spec_StmtOK.j1 k x3 x4 x107000 t110 x107000 x107001 x107002 x107003) else ((some (x107000 == 12)).bind fun t111 => (spec_StmtOK.j1 k x3 x4 x107000 t111 x107000 x107001 x107002 x107003)))))
def spec_StmtOK.j1 : Nat → Bool → Bool → Int → Bool → Int → Int → Int → Int → Option (Bool)
  | 0, _, _, _, _, _, _, _, _ => none
  | k + 1, x3, x4, x15, x16, x107000, x107001, x107002, x107003 => if x16 = true then (if x4 = true then ((spec_l14Label.f x107001).bind fun t112 => (some t112)) else (some false)) else ((some (x15 == 2)).bind fun t113 => (if t113 = true then (if x3 = true then ((spec_l14Reg.f x107001).bind fun t114 => (if t114 = true then ((spec_l05Fits.f k x107002 4).bind fun t115 => (some t115)) else (some false))) else (some false)) else ((some (x15 == 3)).bind fun t116 => (if t116 = true then (if x3 = true then ((spec_l14Reg.f x107001).bind fun t117 => (if t117 = true then ((spec_l14Reg.f x107002).bind fun t118 => (some t118)) else (some false))) else (some false)) else ((some (x15 == 4)).bind fun t119 => (if t119 = true then ((spec_l01In.f x107001 1 8).bind fun t120 => (if t120 = true then ((spec_l14Reg.f x107002).bind fun t121 => (if t121 = true then ((spec_l14Reg.f x107003).bind fun t122 => (some t122)) else (some false))) else (some false))) else ((some (x15 == 5)).bind fun t123 => (if t123 = true then (spec_StmtOK.j2 k x3 x4 x15 t123 x107000 x107001 x107002 x107003) else ((some (x15 == 6)).bind fun t124 => (spec_StmtOK.j2 k x3 x4 x15 t124 x107000 x107001 x107002 x107003))))))))))
def spec_StmtOK.j2 : Nat → Bool → Bool → Int → Bool → Int → Int → Int → Int → Option (Bool)
  | 0, _, _, _, _, _, _, _, _ => none
  | k + 1, x3, x4, x15, x67, x107000, x107001, x107002, x107003 => if x67 = true then ((spec_l14Reg.f x107001).bind fun t125 => (if t125 = true then ((spec_l14Reg.f x107002).bind fun t126 => (if t126 = true then ((spec_l14Disp.f x107003).bind fun t127 => (some t127)) else (some false))) else (some false))) else ((some (x15 == 7)).bind fun t128 => (if t128 = true then (spec_StmtOK.j3 k x3 x4 x15 t128 x107000 x107001 x107002 x107003) else ((some (x15 == 8)).bind fun t129 => (if t129 = true then (spec_StmtOK.j3 k x3 x4 x15 t129 x107000 x107001 x107002 x107003) else ((some (x15 == 16)).bind fun t130 => (spec_StmtOK.j3 k x3 x4 x15 t130 x107000 x107001 x107002 x107003))))))
def spec_StmtOK.j3 : Nat → Bool → Bool → Int → Bool → Int → Int → Int → Int → Option (Bool)
  | 0, _, _, _, _, _, _, _, _ => none
  | k + 1, x3, x4, x15, x83, x107000, x107001, x107002, x107003 => if x83 = true then (if x4 = true then ((spec_l14Reg.f x107001).bind fun t131 => (some t131)) else (some false)) else ((some (x15 == 9)).bind fun t132 => (if t132 = true then (if x4 = true then ((spec_l01In.f x107001 (-256) 256).bind fun t133 => (if t133 = true then (some ((Int.tmod x107001 8) == 0)) else (some false))) else (some false)) else ((some (x15 == 11)).bind fun t134 => (if t134 = true then (if x3 = true then ((spec_l01In.f x107001 0 15).bind fun t135 => (if t135 = true then ((spec_l14Label.f x107002).bind fun t136 => (some t136)) else (some false))) else (some false)) else ((some (x15 == 14)).bind fun t137 => (if t137 = true then (if x4 = true then ((spec_l01In.f x107001 0 7).bind fun t138 => (some t138)) else (some false)) else ((some (x15 == 17)).bind fun t139 => (if t139 = true then (if x3 = true then ((spec_l14Reg.f x107001).bind fun t140 => (if t140 = true then ((spec_l14Label.f x107002).bind fun t141 => (some t141)) else (some false))) else (some false)) else ((some (x15 == 13)).bind fun t142 => (if t142 = true then (if x4 = true then ((some (x107001 == 0)).bind fun t143 => (some t143)) else (some false)) else ((some (x15 == 15)).bind fun t144 => (if t144 = true then (if x4 = true then ((some (x107001 == 0)).bind fun t145 => (some t145)) else (some false)) else (some false)))))))))))))
end
def spec_StmtOK.f (k : Nat) (a0_0 : Int) (a0_1 : Int) (a0_2 : Int) (a0_3 : Int) : Option (Bool) := (some (a0_3 == 0)).bind fun t107 => (if t107 = true then ((some (a0_2 == 0)).bind fun t108 => (spec_StmtOK.j0 k t107 t108 a0_0 a0_1 a0_2 a0_3)) else (spec_StmtOK.j0 k t107 false a0_0 a0_1 a0_2 a0_3))
theorem spec_StmtOK.mono_l : ∀ k, (∀ y0 y1 y2 y3 y4 y5, LeO (spec_StmtOK.j0 k y0 y1 y2 y3 y4 y5) (spec_StmtOK.j0 (k + 1) y0 y1 y2 y3 y4 y5)) ∧ (∀ y0 y1 y2 y3 y4 y5 y6 y7, LeO (spec_StmtOK.j1 k y0 y1 y2 y3 y4 y5 y6 y7) (spec_StmtOK.j1 (k + 1) y0 y1 y2 y3 y4 y5 y6 y7)) ∧ (∀ y0 y1 y2 y3 y4 y5 y6 y7, LeO (spec_StmtOK.j2 k y0 y1 y2 y3 y4 y5 y6 y7) (spec_StmtOK.j2 (k + 1) y0 y1 y2 y3 y4 y5 y6 y7)) ∧ (∀ y0 y1 y2 y3 y4 y5 y6 y7, LeO (spec_StmtOK.j3 k y0 y1 y2 y3 y4 y5 y6 y7) (spec_StmtOK.j3 (k + 1) y0 y1 y2 y3 y4 y5 y6 y7))
  | 0 => ⟨fun _ _ _ _ _ _ r h => by simp [spec_StmtOK.j0] at h, fun _ _ _ _ _ _ _ _ r h => by simp [spec_StmtOK.j1] at h, fun _ _ _ _ _ _ _ _ r h => by simp [spec_StmtOK.j2] at h, fun _ _ _ _ _ _ _ _ r h => by simp [spec_StmtOK.j3] at h⟩
  | k + 1 => by
    obtain ⟨ih0, ih1, ih2, ih3⟩ := spec_StmtOK.mono_l k
    refine ⟨?_, ?_, ?_, ?_⟩
    · intro y0 y1 y2 y3 y4 y5
      unfold spec_StmtOK.j0
      repeat' first
      | (with_reducible exact ih0 _ _ _ _ _ _)
      | (with_reducible exact ih1 _ _ _ _ _ _ _ _)
      | (with_reducible exact ih2 _ _ _ _ _ _ _ _)
      | (with_reducible exact ih3 _ _ _ _ _ _ _ _)
      | (with_reducible exact spec_l05Fits.mono _ _ _)
      | (with_reducible exact LeO.refl _)
      | (with_reducible exact LeO.none _)
      | (with_reducible refine LeO.ite ?_ ?_)
      | (with_reducible refine LeO.bind ?_ (fun _ => ?_))
      | exact ih0 _ _ _ _ _ _
      | exact ih1 _ _ _ _ _ _ _ _
      | exact ih2 _ _ _ _ _ _ _ _
      | exact ih3 _ _ _ _ _ _ _ _
      | exact spec_l05Fits.mono _ _ _
      | exact LeO.none _
      | refine LeO.ite ?_ ?_
      | refine LeO.bind ?_ (fun _ => ?_)
    · intro y0 y1 y2 y3 y4 y5 y6 y7
      unfold spec_StmtOK.j1
      repeat' first
      | (with_reducible exact ih0 _ _ _ _ _ _)
      | (with_reducible exact ih1 _ _ _ _ _ _ _ _)
      | (with_reducible exact ih2 _ _ _ _ _ _ _ _)
      | (with_reducible exact ih3 _ _ _ _ _ _ _ _)
      | (with_reducible exact spec_l05Fits.mono _ _ _)
      | (with_reducible exact LeO.refl _)
      | (with_reducible exact LeO.none _)
      | (with_reducible refine LeO.ite ?_ ?_)
      | (with_reducible refine LeO.bind ?_ (fun _ => ?_))
      | exact ih0 _ _ _ _ _ _
      | exact ih1 _ _ _ _ _ _ _ _
      | exact ih2 _ _ _ _ _ _ _ _
      | exact ih3 _ _ _ _ _ _ _ _
      | exact spec_l05Fits.mono _ _ _
      | exact LeO.none _
      | refine LeO.ite ?_ ?_
      | refine LeO.bind ?_ (fun _ => ?_)
    · intro y0 y1 y2 y3 y4 y5 y6 y7
      unfold spec_StmtOK.j2
      repeat' first
      | (with_reducible exact ih0 _ _ _ _ _ _)
      | (with_reducible exact ih1 _ _ _ _ _ _ _ _)
      | (with_reducible exact ih2 _ _ _ _ _ _ _ _)
      | (with_reducible exact ih3 _ _ _ _ _ _ _ _)
      | (with_reducible exact spec_l05Fits.mono _ _ _)
      | (with_reducible exact LeO.refl _)
      | (with_reducible exact LeO.none _)
      | (with_reducible refine LeO.ite ?_ ?_)
      | (with_reducible refine LeO.bind ?_ (fun _ => ?_))
      | exact ih0 _ _ _ _ _ _
      | exact ih1 _ _ _ _ _ _ _ _
      | exact ih2 _ _ _ _ _ _ _ _
      | exact ih3 _ _ _ _ _ _ _ _
      | exact spec_l05Fits.mono _ _ _
      | exact LeO.none _
      | refine LeO.ite ?_ ?_
      | refine LeO.bind ?_ (fun _ => ?_)
    · intro y0 y1 y2 y3 y4 y5 y6 y7
      unfold spec_StmtOK.j3
      repeat' first
      | (with_reducible exact ih0 _ _ _ _ _ _)
      | (with_reducible exact ih1 _ _ _ _ _ _ _ _)
      | (with_reducible exact ih2 _ _ _ _ _ _ _ _)
      | (with_reducible exact ih3 _ _ _ _ _ _ _ _)
      | (with_reducible exact spec_l05Fits.mono _ _ _)
      | (with_reducible exact LeO.refl _)
      | (with_reducible exact LeO.none _)
      | (with_reducible refine LeO.ite ?_ ?_)
      | (with_reducible refine LeO.bind ?_ (fun _ => ?_))
      | exact ih0 _ _ _ _ _ _
      | exact ih1 _ _ _ _ _ _ _ _
      | exact ih2 _ _ _ _ _ _ _ _
      | exact ih3 _ _ _ _ _ _ _ _
      | exact spec_l05Fits.mono _ _ _
      | exact LeO.none _
      | refine LeO.ite ?_ ?_
      | refine LeO.bind ?_ (fun _ => ?_)
theorem spec_StmtOK.mono : ∀ a0 a1 a2 a3 k, LeO (spec_StmtOK.f k a0 a1 a2 a3) (spec_StmtOK.f (k + 1) a0 a1 a2 a3) := by
  intro a0 a1 a2 a3 k
  obtain ⟨ih0, ih1, ih2, ih3⟩ := spec_StmtOK.mono_l k
  unfold spec_StmtOK.f
  repeat' first
      | (with_reducible exact ih0 _ _ _ _ _ _)
      | (with_reducible exact ih1 _ _ _ _ _ _ _ _)
      | (with_reducible exact ih2 _ _ _ _ _ _ _ _)
      | (with_reducible exact ih3 _ _ _ _ _ _ _ _)
      | (with_reducible exact spec_l05Fits.mono _ _ _)
      | (with_reducible exact LeO.refl _)
      | (with_reducible exact LeO.none _)
      | (with_reducible refine LeO.ite ?_ ?_)
      | (with_reducible refine LeO.bind ?_ (fun _ => ?_))
      | exact ih0 _ _ _ _ _ _
      | exact ih1 _ _ _ _ _ _ _ _
      | exact ih2 _ _ _ _ _ _ _ _
      | exact ih3 _ _ _ _ _ _ _ _
      | exact spec_l05Fits.mono _ _ _
      | exact LeO.none _
      | refine LeO.ite ?_ ?_
      | refine LeO.bind ?_ (fun _ => ?_)
set_option maxHeartbeats 8000000 in
set_option maxRecDepth 100000 in
theorem spec_StmtOK.calls (k : Nat) (a0_0 : Int) (a0_1 : Int) (a0_2 : Int) (a0_3 : Int) (r : Bool) (w : World) (h : spec_StmtOK.f k a0_0 a0_1 a0_2 a0_3 = some r) :
    Calls Try.prog 26 #[.agg #[.int .i64 a0_0, .int .i64 a0_1, .int .i64 a0_2, .int .i64 a0_3]] w fun e w' => e = .returned (.bool r) ∧ Below w.heap.size w w' := by
  have hu37 := Try.underlying37
  have HB := Aside0.mk (Below.refl w.heap.size w)
  have H : ((some (a0_3 == 0)).bind fun t107 => (if t107 = true then ((some (a0_2 == 0)).bind fun t108 => (spec_StmtOK.j0 k t107 t108 a0_0 a0_1 a0_2 a0_3)) else (spec_StmtOK.j0 k t107 false a0_0 a0_1 a0_2 a0_3))) = some r := h
  clear h
  replace H := Option.bind_eq_some_iff.mp H
  obtain ⟨t107, hnbt107, H⟩ := H
  replace H : (if t107 = true then ((some (a0_2 == 0)).bind fun t108 => (spec_StmtOK.j0 k t107 t108 a0_0 a0_1 a0_2 a0_3)) else (spec_StmtOK.j0 k t107 false a0_0 a0_1 a0_2 a0_3)) = some r := H
  replace hnbt107 : (a0_3 == 0) = t107 := Option.some.inj hnbt107
  have HC2 := Aside0.mk H
  clear H
  go_enter Try.func26, Try.ntmps26
  go_upto_region 2 with (first | ((with_reducible refine gate_dst (N := 1) rfl ?_); refine box_event ?hg (N := 1) ?hd (cs := #[.int .i64 a0_0, .int .i64 a0_1, .int .i64 a0_2, .int .i64 a0_3]) (t := 37) ?hr ?_; (case hd => rfl); (case hg => rfl); (case hr => first | (go_simp; done) | (go_simp; rfl)); intro gb106 hg w3 hbox hb; have n0_ := Aside0.mk (below_step (by repeat (first | (with_reducible first | exact HB.out | apply below_alloc | apply pw_below_drewN | apply below_drew1) | exact HB.out)) hb); have n1_ := Aside0.mk (hbox); have n2_ := Aside0.mk ((by rw [hg]; exact (below_size (by repeat (first | (with_reducible first | exact HB.out | apply below_alloc | apply pw_below_drewN | apply below_drew1) | exact HB.out))) : w.heap.size ≤ gb106)); have n3_ := Aside0.mk ((by rw [hg]; exact (below_size (by repeat (first | (with_reducible first | exact HB.out | apply below_alloc | apply pw_below_drewN | apply below_drew1) | exact HB.out))) : w.heap.size ≤ gb106)); clear HB; have HB := n0_; have BK106 := n1_; have GW106 := n2_; have GE106 := n3_; clear n0_ n1_ n2_ n3_; clear hb hbox hg; have hcz4_0 : w3.cell? ⟨gb106, 0, none⟩ = some (.int .i64 a0_0) := (blk_cell BK106.out 0).trans rfl; have hcz4_1 : w3.cell? ⟨gb106, 1, none⟩ = some (.int .i64 a0_1) := (blk_cell BK106.out 1).trans rfl; have hcz4_2 : w3.cell? ⟨gb106, 2, none⟩ = some (.int .i64 a0_2) := (blk_cell BK106.out 2).trans rfl; have hcz4_3 : w3.cell? ⟨gb106, 3, none⟩ = some (.int .i64 a0_3) := (blk_cell BK106.out 3).trans rfl; have hfz4_0 := blk_frozen BK106.out 0; have hfz4_1 := blk_frozen BK106.out 1; have hfz4_2 := blk_frozen BK106.out 2; have hfz4_3 := blk_frozen BK106.out 3))
  (try simp only [Act.put, List.setIfInBounds_toArray, List.set_cons_zero, List.set_cons_succ])
  go_cut [4] (fun v4 wc => ∃ (kq : Nat) (x4_1 : Bool), v4 = .bool x4_1 ∧ Aside0 (spec_StmtOK.j0 kq t107 x4_1 a0_0 a0_1 a0_2 a0_3 = some r) ∧ Aside0 (kq ≤ k) ∧ Aside0 (wc.heap[gb106]? = some (.cells #[.int .i64 a0_0, .int .i64 a0_1, .int .i64 a0_2, .int .i64 a0_3] 37 (0, 0))) ∧ Aside0 (Below w.heap.size w wc))
  case first =>
    have H := HC2.out
    clear HC2
    by_cases c5 : t107 = true
    · subst c5
      have H1 : ((some (a0_2 == 0)).bind fun t108 => (spec_StmtOK.j0 k true t108 a0_0 a0_1 a0_2 a0_3)) = some r := by rw [if_pos rfl] at H; exact H
      clear H
      have H := H1
      clear H1
      replace H := Option.bind_eq_some_iff.mp H
      obtain ⟨t108, hnbt108, H⟩ := H
      replace H : (spec_StmtOK.j0 k true t108 a0_0 a0_1 a0_2 a0_3) = some r := H
      replace hnbt108 : (a0_2 == 0) = t108 := Option.some.inj hnbt108
      have H' := Aside0.mk H
      clear H
      have hcz6_0 : w3.cell? ⟨gb106, 0, none⟩ = some (.int .i64 a0_0) := (blk_cell BK106.out 0).trans rfl
      have hcz6_1 : w3.cell? ⟨gb106, 1, none⟩ = some (.int .i64 a0_1) := (blk_cell BK106.out 1).trans rfl
      have hcz6_2 : w3.cell? ⟨gb106, 2, none⟩ = some (.int .i64 a0_2) := (blk_cell BK106.out 2).trans rfl
      have hcz6_3 : w3.cell? ⟨gb106, 3, none⟩ = some (.int .i64 a0_3) := (blk_cell BK106.out 3).trans rfl
      have hfz6_0 := blk_frozen BK106.out 0
      have hfz6_1 := blk_frozen BK106.out 1
      have hfz6_2 := blk_frozen BK106.out 2
      have hfz6_3 := blk_frozen BK106.out 3
      go_wp2
      go_meet
      case rel => exact ⟨_, (t108), (by first | rfl | (simp; done) | (simp [*]; done)), H', ⟨by first | omega | exact Nat.le_refl _⟩, ⟨by (with_reducible repeat (first | refine blk_drewN ?_ _ | refine blk_drew ?_ | refine blk_alloc ?_ _)); exact BK106.out⟩, ⟨by repeat (first | (with_reducible first | exact HB.out | apply below_alloc | apply pw_below_drewN | apply below_drew1 | refine below_set ?_ GE106.out) | exact HB.out)⟩⟩
    · replace c5 := Bool.eq_false_iff.mpr c5
      subst c5
      have H1 : (spec_StmtOK.j0 k false false a0_0 a0_1 a0_2 a0_3) = some r := by rw [if_neg (show ¬ (false = true) by decide)] at H; exact H
      clear H
      have H := H1
      clear H1
      have H' := Aside0.mk H
      clear H
      go_wp2
      go_meet
      case rel => exact ⟨_, (false), (by first | rfl | (simp; done) | (simp [*]; done)), H', ⟨by first | omega | exact Nat.le_refl _⟩, ⟨by (with_reducible repeat (first | refine blk_drewN ?_ _ | refine blk_drew ?_ | refine blk_alloc ?_ _)); exact BK106.out⟩, ⟨by repeat (first | (with_reducible first | exact HB.out | apply below_alloc | apply pw_below_drewN | apply below_drew1 | refine below_set ?_ GE106.out) | exact HB.out)⟩⟩
  case rest =>
    clear HC2
    try clear c2
    try clear p2
    try clear c5
    try clear hcz4_0
    try clear hcz4_1
    try clear hcz4_2
    try clear hcz4_3
    try clear hcz6_0
    try clear hcz6_1
    try clear hcz6_2
    try clear hcz6_3
    try clear hfz4_0
    try clear hfz4_1
    try clear hfz4_2
    try clear hfz4_3
    try clear hfz6_0
    try clear hfz6_1
    try clear hfz6_2
    try clear hfz6_3
    obtain ⟨kq, x4_1, rfl, HA, HJ1, BK106, HB⟩ := hcut
    cases kq with
    | zero => exact absurd HA.out (by simp [spec_StmtOK.j0])
    | succ kj1 =>
      have H := HA.out
      clear HA
      simp only [spec_StmtOK.j0] at H
      replace H := Option.bind_eq_some_iff.mp H
      obtain ⟨t109, hnbt109, H⟩ := H
      replace H : (if t109 = true then (spec_StmtOK.j1 kj1 t107 x4_1 a0_0 t109 a0_0 a0_1 a0_2 a0_3) else ((some (a0_0 == 10)).bind fun t110 => (if t110 = true then (spec_StmtOK.j1 kj1 t107 x4_1 a0_0 t110 a0_0 a0_1 a0_2 a0_3) else ((some (a0_0 == 12)).bind fun t111 => (spec_StmtOK.j1 kj1 t107 x4_1 a0_0 t111 a0_0 a0_1 a0_2 a0_3))))) = some r := H
      replace hnbt109 : (a0_0 == 1) = t109 := Option.some.inj hnbt109
      have HC7 := Aside0.mk H
      clear H
      have hcz8_0 : wc.cell? ⟨gb106, 0, none⟩ = some (.int .i64 a0_0) := (blk_cell BK106.out 0).trans rfl
      have hcz8_1 : wc.cell? ⟨gb106, 1, none⟩ = some (.int .i64 a0_1) := (blk_cell BK106.out 1).trans rfl
      have hcz8_2 : wc.cell? ⟨gb106, 2, none⟩ = some (.int .i64 a0_2) := (blk_cell BK106.out 2).trans rfl
      have hcz8_3 : wc.cell? ⟨gb106, 3, none⟩ = some (.int .i64 a0_3) := (blk_cell BK106.out 3).trans rfl
      have hfz8_0 := blk_frozen BK106.out 0
      have hfz8_1 := blk_frozen BK106.out 1
      have hfz8_2 := blk_frozen BK106.out 2
      have hfz8_3 := blk_frozen BK106.out 3
      go_upto_if 16 with (fail)
      go_cut [16] (fun v16 wc => ∃ (kq : Nat) (x16_6 : Bool), v16 = .bool x16_6 ∧ Aside0 (spec_StmtOK.j1 kq t107 x4_1 a0_0 x16_6 a0_0 a0_1 a0_2 a0_3 = some r) ∧ Aside0 (kq ≤ kj1) ∧ Aside0 (wc.heap[gb106]? = some (.cells #[.int .i64 a0_0, .int .i64 a0_1, .int .i64 a0_2, .int .i64 a0_3] 37 (0, 0))) ∧ Aside0 (Below w.heap.size w wc))
      case first =>
        have H := HC7.out
        clear HC7
        by_cases c9 : t109 = true
        · subst c9
          have H1 : (spec_StmtOK.j1 kj1 t107 x4_1 a0_0 true a0_0 a0_1 a0_2 a0_3) = some r := by rw [if_pos rfl] at H; exact H
          clear H
          have H := H1
          clear H1
          have H' := Aside0.mk H
          clear H
          go_wp2
          go_meet
          case rel => exact ⟨_, (true), (by first | rfl | (simp; done) | (simp [*]; done)), H', ⟨by have := HJ1.out; first | omega | exact Nat.le_refl _⟩, ⟨by (with_reducible repeat (first | refine blk_drewN ?_ _ | refine blk_drew ?_ | refine blk_alloc ?_ _)); exact BK106.out⟩, ⟨by repeat (first | (with_reducible first | exact HB.out | apply below_alloc | apply pw_below_drewN | apply below_drew1 | refine below_set ?_ GE106.out) | exact HB.out)⟩⟩
        · replace c9 := Bool.eq_false_iff.mpr c9
          subst c9
          have H1 : ((some (a0_0 == 10)).bind fun t110 => (if t110 = true then (spec_StmtOK.j1 kj1 t107 x4_1 a0_0 t110 a0_0 a0_1 a0_2 a0_3) else ((some (a0_0 == 12)).bind fun t111 => (spec_StmtOK.j1 kj1 t107 x4_1 a0_0 t111 a0_0 a0_1 a0_2 a0_3)))) = some r := by rw [if_neg (show ¬ (false = true) by decide)] at H; exact H
          clear H
          have H := H1
          clear H1
          replace H := Option.bind_eq_some_iff.mp H
          obtain ⟨t110, hnbt110, H⟩ := H
          replace H : (if t110 = true then (spec_StmtOK.j1 kj1 t107 x4_1 a0_0 t110 a0_0 a0_1 a0_2 a0_3) else ((some (a0_0 == 12)).bind fun t111 => (spec_StmtOK.j1 kj1 t107 x4_1 a0_0 t111 a0_0 a0_1 a0_2 a0_3))) = some r := H
          replace hnbt110 : (a0_0 == 10) = t110 := Option.some.inj hnbt110
          by_cases c10 : t110 = true
          · subst c10
            have H1 : (spec_StmtOK.j1 kj1 t107 x4_1 a0_0 true a0_0 a0_1 a0_2 a0_3) = some r := by rw [if_pos rfl] at H; exact H
            clear H
            have H := H1
            clear H1
            have H' := Aside0.mk H
            clear H
            go_wp2
            go_meet
            case rel => exact ⟨_, (true), (by first | rfl | (simp; done) | (simp [*]; done)), H', ⟨by have := HJ1.out; first | omega | exact Nat.le_refl _⟩, ⟨by (with_reducible repeat (first | refine blk_drewN ?_ _ | refine blk_drew ?_ | refine blk_alloc ?_ _)); exact BK106.out⟩, ⟨by repeat (first | (with_reducible first | exact HB.out | apply below_alloc | apply pw_below_drewN | apply below_drew1 | refine below_set ?_ GE106.out) | exact HB.out)⟩⟩
          · replace c10 := Bool.eq_false_iff.mpr c10
            subst c10
            have H1 : ((some (a0_0 == 12)).bind fun t111 => (spec_StmtOK.j1 kj1 t107 x4_1 a0_0 t111 a0_0 a0_1 a0_2 a0_3)) = some r := by rw [if_neg (show ¬ (false = true) by decide)] at H; exact H
            clear H
            have H := H1
            clear H1
            replace H := Option.bind_eq_some_iff.mp H
            obtain ⟨t111, hnbt111, H⟩ := H
            replace H : (spec_StmtOK.j1 kj1 t107 x4_1 a0_0 t111 a0_0 a0_1 a0_2 a0_3) = some r := H
            replace hnbt111 : (a0_0 == 12) = t111 := Option.some.inj hnbt111
            have H' := Aside0.mk H
            clear H
            go_wp2
            go_meet
            case rel => exact ⟨_, (t111), (by first | rfl | (simp; done) | (simp [*]; done)), H', ⟨by have := HJ1.out; first | omega | exact Nat.le_refl _⟩, ⟨by (with_reducible repeat (first | refine blk_drewN ?_ _ | refine blk_drew ?_ | refine blk_alloc ?_ _)); exact BK106.out⟩, ⟨by repeat (first | (with_reducible first | exact HB.out | apply below_alloc | apply pw_below_drewN | apply below_drew1 | refine below_set ?_ GE106.out) | exact HB.out)⟩⟩
      case rest =>
        clear HC7
        try clear c1
        try clear c2
        try clear p2
        try clear c5
        try clear c9
        try clear c10
        try clear hcz4_0
        try clear hcz4_1
        try clear hcz4_2
        try clear hcz4_3
        try clear hcz6_0
        try clear hcz6_1
        try clear hcz6_2
        try clear hcz6_3
        try clear hcz8_0
        try clear hcz8_1
        try clear hcz8_2
        try clear hcz8_3
        try clear hfz4_0
        try clear hfz4_1
        try clear hfz4_2
        try clear hfz4_3
        try clear hfz6_0
        try clear hfz6_1
        try clear hfz6_2
        try clear hfz6_3
        try clear hfz8_0
        try clear hfz8_1
        try clear hfz8_2
        try clear hfz8_3
        try clear p2
        obtain ⟨kq, x16_6, rfl, HA, HJ6, BK106, HB⟩ := hcut
        cases kq with
        | zero => exact absurd HA.out (by simp [spec_StmtOK.j1])
        | succ kj6 =>
          have H := HA.out
          clear HA
          simp only [spec_StmtOK.j1] at H
          by_cases c11 : x16_6 = true
          · subst c11
            have H1 : (if x4_1 = true then ((spec_l14Label.f a0_1).bind fun t112 => (some t112)) else (some false)) = some r := by rw [if_pos rfl] at H; exact H
            clear H
            have H := H1
            clear H1
            by_cases c12 : x4_1 = true
            · subst c12
              have H1 : ((spec_l14Label.f a0_1).bind fun t112 => (some t112)) = some r := by rw [if_pos rfl] at H; exact H
              clear H
              have H := H1
              clear H1
              replace H := Option.bind_eq_some_iff.mp H
              obtain ⟨t112, A130, H⟩ := H
              replace H : (some t112) = some r := H
              have A13 := Aside0.mk A130
              clear A130
              obtain rfl := Option.some.inj H
              have hcz14_0 : wc.cell? ⟨gb106, 0, none⟩ = some (.int .i64 a0_0) := (blk_cell BK106.out 0).trans rfl
              have hcz14_1 : wc.cell? ⟨gb106, 1, none⟩ = some (.int .i64 a0_1) := (blk_cell BK106.out 1).trans rfl
              have hcz14_2 : wc.cell? ⟨gb106, 2, none⟩ = some (.int .i64 a0_2) := (blk_cell BK106.out 2).trans rfl
              have hcz14_3 : wc.cell? ⟨gb106, 3, none⟩ = some (.int .i64 a0_3) := (blk_cell BK106.out 3).trans rfl
              have hfz14_0 := blk_frozen BK106.out 0
              have hfz14_1 := blk_frozen BK106.out 1
              have hfz14_2 := blk_frozen BK106.out 2
              have hfz14_3 := blk_frozen BK106.out 3
              go_wp2_with (first | (go_at_call 55; (with_reducible refine (spec_l14Label.calls a0_1 t112 _ A13.out).mono ?_); rintro e w' ⟨rfl, ⟨nd, rfl⟩⟩))
              go_ret
              exact ⟨by first | rfl | (simp [errW_none, errW_some] <;> rfl) | (simp [*, errW_none, errW_some] <;> rfl), by repeat (first | (with_reducible first | exact HB.out | apply below_alloc | apply pw_below_drewN | apply below_drew1 | refine below_set ?_ GE106.out) | exact HB.out)⟩
            · replace c12 := Bool.eq_false_iff.mpr c12
              subst c12
              have H1 : (some false) = some r := by rw [if_neg (show ¬ (false = true) by decide)] at H; exact H
              clear H
              have H := H1
              clear H1
              obtain rfl := Option.some.inj H
              go_wp2
              go_ret
              exact ⟨by first | rfl | (simp [errW_none, errW_some] <;> rfl) | (simp [*, errW_none, errW_some] <;> rfl), by repeat (first | (with_reducible first | exact HB.out | apply below_alloc | apply pw_below_drewN | apply below_drew1 | refine below_set ?_ GE106.out) | exact HB.out)⟩
          · replace c11 := Bool.eq_false_iff.mpr c11
            subst c11
            have H1 : ((some (a0_0 == 2)).bind fun t113 => (if t113 = true then (if t107 = true then ((spec_l14Reg.f a0_1).bind fun t114 => (if t114 = true then ((spec_l05Fits.f kj6 a0_2 4).bind fun t115 => (some t115)) else (some false))) else (some false)) else ((some (a0_0 == 3)).bind fun t116 => (if t116 = true then (if t107 = true then ((spec_l14Reg.f a0_1).bind fun t117 => (if t117 = true then ((spec_l14Reg.f a0_2).bind fun t118 => (some t118)) else (some false))) else (some false)) else ((some (a0_0 == 4)).bind fun t119 => (if t119 = true then ((spec_l01In.f a0_1 1 8).bind fun t120 => (if t120 = true then ((spec_l14Reg.f a0_2).bind fun t121 => (if t121 = true then ((spec_l14Reg.f a0_3).bind fun t122 => (some t122)) else (some false))) else (some false))) else ((some (a0_0 == 5)).bind fun t123 => (if t123 = true then (spec_StmtOK.j2 kj6 t107 x4_1 a0_0 t123 a0_0 a0_1 a0_2 a0_3) else ((some (a0_0 == 6)).bind fun t124 => (spec_StmtOK.j2 kj6 t107 x4_1 a0_0 t124 a0_0 a0_1 a0_2 a0_3)))))))))) = some r := by rw [if_neg (show ¬ (false = true) by decide)] at H; exact H
            clear H
            have H := H1
            clear H1
            replace H := Option.bind_eq_some_iff.mp H
            obtain ⟨t113, hnbt113, H⟩ := H
            replace H : (if t113 = true then (if t107 = true then ((spec_l14Reg.f a0_1).bind fun t114 => (if t114 = true then ((spec_l05Fits.f kj6 a0_2 4).bind fun t115 => (some t115)) else (some false))) else (some false)) else ((some (a0_0 == 3)).bind fun t116 => (if t116 = true then (if t107 = true then ((spec_l14Reg.f a0_1).bind fun t117 => (if t117 = true then ((spec_l14Reg.f a0_2).bind fun t118 => (some t118)) else (some false))) else (some false)) else ((some (a0_0 == 4)).bind fun t119 => (if t119 = true then ((spec_l01In.f a0_1 1 8).bind fun t120 => (if t120 = true then ((spec_l14Reg.f a0_2).bind fun t121 => (if t121 = true then ((spec_l14Reg.f a0_3).bind fun t122 => (some t122)) else (some false))) else (some false))) else ((some (a0_0 == 5)).bind fun t123 => (if t123 = true then (spec_StmtOK.j2 kj6 t107 x4_1 a0_0 t123 a0_0 a0_1 a0_2 a0_3) else ((some (a0_0 == 6)).bind fun t124 => (spec_StmtOK.j2 kj6 t107 x4_1 a0_0 t124 a0_0 a0_1 a0_2 a0_3))))))))) = some r := H
            replace hnbt113 : (a0_0 == 2) = t113 := Option.some.inj hnbt113
            by_cases c15 : t113 = true
            · subst c15
              have H1 : (if t107 = true then ((spec_l14Reg.f a0_1).bind fun t114 => (if t114 = true then ((spec_l05Fits.f kj6 a0_2 4).bind fun t115 => (some t115)) else (some false))) else (some false)) = some r := by rw [if_pos rfl] at H; exact H
              clear H
              have H := H1
              clear H1
              by_cases c16 : t107 = true
              · subst c16
                have H1 : ((spec_l14Reg.f a0_1).bind fun t114 => (if t114 = true then ((spec_l05Fits.f kj6 a0_2 4).bind fun t115 => (some t115)) else (some false))) = some r := by rw [if_pos rfl] at H; exact H
                clear H
                have H := H1
                clear H1
                replace H := Option.bind_eq_some_iff.mp H
                obtain ⟨t114, A170, H⟩ := H
                replace H : (if t114 = true then ((spec_l05Fits.f kj6 a0_2 4).bind fun t115 => (some t115)) else (some false)) = some r := H
                have A17 := Aside0.mk A170
                clear A170
                by_cases c18 : t114 = true
                · subst c18
                  have H1 : ((spec_l05Fits.f kj6 a0_2 4).bind fun t115 => (some t115)) = some r := by rw [if_pos rfl] at H; exact H
                  clear H
                  have H := H1
                  clear H1
                  replace H := Option.bind_eq_some_iff.mp H
                  obtain ⟨t115, A190, H⟩ := H
                  replace H : (some t115) = some r := H
                  have A19 := Aside0.mk A190
                  clear A190
                  obtain rfl := Option.some.inj H
                  have hcz20_0 : wc.cell? ⟨gb106, 0, none⟩ = some (.int .i64 a0_0) := (blk_cell BK106.out 0).trans rfl
                  have hcz20_1 : wc.cell? ⟨gb106, 1, none⟩ = some (.int .i64 a0_1) := (blk_cell BK106.out 1).trans rfl
                  have hcz20_2 : wc.cell? ⟨gb106, 2, none⟩ = some (.int .i64 a0_2) := (blk_cell BK106.out 2).trans rfl
                  have hcz20_3 : wc.cell? ⟨gb106, 3, none⟩ = some (.int .i64 a0_3) := (blk_cell BK106.out 3).trans rfl
                  have hfz20_0 := blk_frozen BK106.out 0
                  have hfz20_1 := blk_frozen BK106.out 1
                  have hfz20_2 := blk_frozen BK106.out 2
                  have hfz20_3 := blk_frozen BK106.out 3
                  go_wp2_with (first | (go_at_call 56; (with_reducible refine (spec_l14Reg.calls a0_1 true _ A17.out).mono ?_); rintro e w' ⟨rfl, ⟨nd, rfl⟩⟩) | (go_at_call 57; (with_reducible refine (spec_l05Fits.calls kj6 a0_2 4 t115 _ A19.out).mono ?_); rintro e w21 ⟨rfl, hb⟩; have n0_ := Aside0.mk (blk_below (g := gb106) (o := .cells #[.int .i64 a0_0, .int .i64 a0_1, .int .i64 a0_2, .int .i64 a0_3] 37 (0, 0)) (by (with_reducible repeat (first | refine blk_drewN ?_ _ | refine blk_drew ?_ | refine blk_alloc ?_ _)); exact BK106.out) hb); have n1_ := Aside0.mk (below_step (by repeat (first | (with_reducible first | exact HB.out | apply below_alloc | apply pw_below_drewN | apply below_drew1 | refine below_set ?_ GE106.out) | exact HB.out)) hb); clear BK106; clear HB; have BK106 := n0_; have HB := n1_; clear n0_ n1_; (try clear hb); (try clear hb2); (try clear hk); (try clear hi)))
                  go_ret
                  exact ⟨by first | rfl | (simp [errW_none, errW_some] <;> rfl) | (simp [*, errW_none, errW_some] <;> rfl), by repeat (first | (with_reducible first | exact HB.out | apply below_alloc | apply pw_below_drewN | apply below_drew1 | refine below_set ?_ GE106.out) | exact HB.out)⟩
                · replace c18 := Bool.eq_false_iff.mpr c18
                  subst c18
                  have H1 : (some false) = some r := by rw [if_neg (show ¬ (false = true) by decide)] at H; exact H
                  clear H
                  have H := H1
                  clear H1
                  obtain rfl := Option.some.inj H
                  have hcz22_0 : wc.cell? ⟨gb106, 0, none⟩ = some (.int .i64 a0_0) := (blk_cell BK106.out 0).trans rfl
                  have hcz22_1 : wc.cell? ⟨gb106, 1, none⟩ = some (.int .i64 a0_1) := (blk_cell BK106.out 1).trans rfl
                  have hcz22_2 : wc.cell? ⟨gb106, 2, none⟩ = some (.int .i64 a0_2) := (blk_cell BK106.out 2).trans rfl
                  have hcz22_3 : wc.cell? ⟨gb106, 3, none⟩ = some (.int .i64 a0_3) := (blk_cell BK106.out 3).trans rfl
                  have hfz22_0 := blk_frozen BK106.out 0
                  have hfz22_1 := blk_frozen BK106.out 1
                  have hfz22_2 := blk_frozen BK106.out 2
                  have hfz22_3 := blk_frozen BK106.out 3
                  go_wp2_with (first | (go_at_call 56; (with_reducible refine (spec_l14Reg.calls a0_1 false _ A17.out).mono ?_); rintro e w' ⟨rfl, ⟨nd, rfl⟩⟩))
                  go_ret
                  exact ⟨by first | rfl | (simp [errW_none, errW_some] <;> rfl) | (simp [*, errW_none, errW_some] <;> rfl), by repeat (first | (with_reducible first | exact HB.out | apply below_alloc | apply pw_below_drewN | apply below_drew1 | refine below_set ?_ GE106.out) | exact HB.out)⟩
              · replace c16 := Bool.eq_false_iff.mpr c16
                subst c16
                have H1 : (some false) = some r := by rw [if_neg (show ¬ (false = true) by decide)] at H; exact H
                clear H
                have H := H1
                clear H1
                obtain rfl := Option.some.inj H
                go_wp2
                go_ret
                exact ⟨by first | rfl | (simp [errW_none, errW_some] <;> rfl) | (simp [*, errW_none, errW_some] <;> rfl), by repeat (first | (with_reducible first | exact HB.out | apply below_alloc | apply pw_below_drewN | apply below_drew1 | refine below_set ?_ GE106.out) | exact HB.out)⟩
            · replace c15 := Bool.eq_false_iff.mpr c15
              subst c15
              have H1 : ((some (a0_0 == 3)).bind fun t116 => (if t116 = true then (if t107 = true then ((spec_l14Reg.f a0_1).bind fun t117 => (if t117 = true then ((spec_l14Reg.f a0_2).bind fun t118 => (some t118)) else (some false))) else (some false)) else ((some (a0_0 == 4)).bind fun t119 => (if t119 = true then ((spec_l01In.f a0_1 1 8).bind fun t120 => (if t120 = true then ((spec_l14Reg.f a0_2).bind fun t121 => (if t121 = true then ((spec_l14Reg.f a0_3).bind fun t122 => (some t122)) else (some false))) else (some false))) else ((some (a0_0 == 5)).bind fun t123 => (if t123 = true then (spec_StmtOK.j2 kj6 t107 x4_1 a0_0 t123 a0_0 a0_1 a0_2 a0_3) else ((some (a0_0 == 6)).bind fun t124 => (spec_StmtOK.j2 kj6 t107 x4_1 a0_0 t124 a0_0 a0_1 a0_2 a0_3)))))))) = some r := by rw [if_neg (show ¬ (false = true) by decide)] at H; exact H
              clear H
              have H := H1
              clear H1
              replace H := Option.bind_eq_some_iff.mp H
              obtain ⟨t116, hnbt116, H⟩ := H
              replace H : (if t116 = true then (if t107 = true then ((spec_l14Reg.f a0_1).bind fun t117 => (if t117 = true then ((spec_l14Reg.f a0_2).bind fun t118 => (some t118)) else (some false))) else (some false)) else ((some (a0_0 == 4)).bind fun t119 => (if t119 = true then ((spec_l01In.f a0_1 1 8).bind fun t120 => (if t120 = true then ((spec_l14Reg.f a0_2).bind fun t121 => (if t121 = true then ((spec_l14Reg.f a0_3).bind fun t122 => (some t122)) else (some false))) else (some false))) else ((some (a0_0 == 5)).bind fun t123 => (if t123 = true then (spec_StmtOK.j2 kj6 t107 x4_1 a0_0 t123 a0_0 a0_1 a0_2 a0_3) else ((some (a0_0 == 6)).bind fun t124 => (spec_StmtOK.j2 kj6 t107 x4_1 a0_0 t124 a0_0 a0_1 a0_2 a0_3))))))) = some r := H
              replace hnbt116 : (a0_0 == 3) = t116 := Option.some.inj hnbt116
              by_cases c23 : t116 = true
              · subst c23
                have H1 : (if t107 = true then ((spec_l14Reg.f a0_1).bind fun t117 => (if t117 = true then ((spec_l14Reg.f a0_2).bind fun t118 => (some t118)) else (some false))) else (some false)) = some r := by rw [if_pos rfl] at H; exact H
                clear H
                have H := H1
                clear H1
                by_cases c24 : t107 = true
                · subst c24
                  have H1 : ((spec_l14Reg.f a0_1).bind fun t117 => (if t117 = true then ((spec_l14Reg.f a0_2).bind fun t118 => (some t118)) else (some false))) = some r := by rw [if_pos rfl] at H; exact H
                  clear H
                  have H := H1
                  clear H1
                  replace H := Option.bind_eq_some_iff.mp H
                  obtain ⟨t117, A250, H⟩ := H
                  replace H : (if t117 = true then ((spec_l14Reg.f a0_2).bind fun t118 => (some t118)) else (some false)) = some r := H
                  have A25 := Aside0.mk A250
                  clear A250
                  by_cases c26 : t117 = true
                  · subst c26
                    have H1 : ((spec_l14Reg.f a0_2).bind fun t118 => (some t118)) = some r := by rw [if_pos rfl] at H; exact H
                    clear H
                    have H := H1
                    clear H1
                    replace H := Option.bind_eq_some_iff.mp H
                    obtain ⟨t118, A270, H⟩ := H
                    replace H : (some t118) = some r := H
                    have A27 := Aside0.mk A270
                    clear A270
                    obtain rfl := Option.some.inj H
                    have hcz28_0 : wc.cell? ⟨gb106, 0, none⟩ = some (.int .i64 a0_0) := (blk_cell BK106.out 0).trans rfl
                    have hcz28_1 : wc.cell? ⟨gb106, 1, none⟩ = some (.int .i64 a0_1) := (blk_cell BK106.out 1).trans rfl
                    have hcz28_2 : wc.cell? ⟨gb106, 2, none⟩ = some (.int .i64 a0_2) := (blk_cell BK106.out 2).trans rfl
                    have hcz28_3 : wc.cell? ⟨gb106, 3, none⟩ = some (.int .i64 a0_3) := (blk_cell BK106.out 3).trans rfl
                    have hfz28_0 := blk_frozen BK106.out 0
                    have hfz28_1 := blk_frozen BK106.out 1
                    have hfz28_2 := blk_frozen BK106.out 2
                    have hfz28_3 := blk_frozen BK106.out 3
                    go_wp2_with (first | (go_at_call 56; (with_reducible refine (spec_l14Reg.calls a0_1 true _ A25.out).mono ?_); rintro e w' ⟨rfl, ⟨nd, rfl⟩⟩) | (go_at_call 56; (with_reducible refine (spec_l14Reg.calls a0_2 t118 _ A27.out).mono ?_); rintro e w' ⟨rfl, ⟨nd, rfl⟩⟩))
                    go_ret
                    exact ⟨by first | rfl | (simp [errW_none, errW_some] <;> rfl) | (simp [*, errW_none, errW_some] <;> rfl), by repeat (first | (with_reducible first | exact HB.out | apply below_alloc | apply pw_below_drewN | apply below_drew1 | refine below_set ?_ GE106.out) | exact HB.out)⟩
                  · replace c26 := Bool.eq_false_iff.mpr c26
                    subst c26
                    have H1 : (some false) = some r := by rw [if_neg (show ¬ (false = true) by decide)] at H; exact H
                    clear H
                    have H := H1
                    clear H1
                    obtain rfl := Option.some.inj H
                    have hcz29_0 : wc.cell? ⟨gb106, 0, none⟩ = some (.int .i64 a0_0) := (blk_cell BK106.out 0).trans rfl
                    have hcz29_1 : wc.cell? ⟨gb106, 1, none⟩ = some (.int .i64 a0_1) := (blk_cell BK106.out 1).trans rfl
                    have hcz29_2 : wc.cell? ⟨gb106, 2, none⟩ = some (.int .i64 a0_2) := (blk_cell BK106.out 2).trans rfl
                    have hcz29_3 : wc.cell? ⟨gb106, 3, none⟩ = some (.int .i64 a0_3) := (blk_cell BK106.out 3).trans rfl
                    have hfz29_0 := blk_frozen BK106.out 0
                    have hfz29_1 := blk_frozen BK106.out 1
                    have hfz29_2 := blk_frozen BK106.out 2
                    have hfz29_3 := blk_frozen BK106.out 3
                    go_wp2_with (first | (go_at_call 56; (with_reducible refine (spec_l14Reg.calls a0_1 false _ A25.out).mono ?_); rintro e w' ⟨rfl, ⟨nd, rfl⟩⟩))
                    go_ret
                    exact ⟨by first | rfl | (simp [errW_none, errW_some] <;> rfl) | (simp [*, errW_none, errW_some] <;> rfl), by repeat (first | (with_reducible first | exact HB.out | apply below_alloc | apply pw_below_drewN | apply below_drew1 | refine below_set ?_ GE106.out) | exact HB.out)⟩
                · replace c24 := Bool.eq_false_iff.mpr c24
                  subst c24
                  have H1 : (some false) = some r := by rw [if_neg (show ¬ (false = true) by decide)] at H; exact H
                  clear H
                  have H := H1
                  clear H1
                  obtain rfl := Option.some.inj H
                  go_wp2
                  go_ret
                  exact ⟨by first | rfl | (simp [errW_none, errW_some] <;> rfl) | (simp [*, errW_none, errW_some] <;> rfl), by repeat (first | (with_reducible first | exact HB.out | apply below_alloc | apply pw_below_drewN | apply below_drew1 | refine below_set ?_ GE106.out) | exact HB.out)⟩
              · replace c23 := Bool.eq_false_iff.mpr c23
                subst c23
                have H1 : ((some (a0_0 == 4)).bind fun t119 => (if t119 = true then ((spec_l01In.f a0_1 1 8).bind fun t120 => (if t120 = true then ((spec_l14Reg.f a0_2).bind fun t121 => (if t121 = true then ((spec_l14Reg.f a0_3).bind fun t122 => (some t122)) else (some false))) else (some false))) else ((some (a0_0 == 5)).bind fun t123 => (if t123 = true then (spec_StmtOK.j2 kj6 t107 x4_1 a0_0 t123 a0_0 a0_1 a0_2 a0_3) else ((some (a0_0 == 6)).bind fun t124 => (spec_StmtOK.j2 kj6 t107 x4_1 a0_0 t124 a0_0 a0_1 a0_2 a0_3)))))) = some r := by rw [if_neg (show ¬ (false = true) by decide)] at H; exact H
                clear H
                have H := H1
                clear H1
                replace H := Option.bind_eq_some_iff.mp H
                obtain ⟨t119, hnbt119, H⟩ := H
                replace H : (if t119 = true then ((spec_l01In.f a0_1 1 8).bind fun t120 => (if t120 = true then ((spec_l14Reg.f a0_2).bind fun t121 => (if t121 = true then ((spec_l14Reg.f a0_3).bind fun t122 => (some t122)) else (some false))) else (some false))) else ((some (a0_0 == 5)).bind fun t123 => (if t123 = true then (spec_StmtOK.j2 kj6 t107 x4_1 a0_0 t123 a0_0 a0_1 a0_2 a0_3) else ((some (a0_0 == 6)).bind fun t124 => (spec_StmtOK.j2 kj6 t107 x4_1 a0_0 t124 a0_0 a0_1 a0_2 a0_3))))) = some r := H
                replace hnbt119 : (a0_0 == 4) = t119 := Option.some.inj hnbt119
                by_cases c30 : t119 = true
                · subst c30
                  have H1 : ((spec_l01In.f a0_1 1 8).bind fun t120 => (if t120 = true then ((spec_l14Reg.f a0_2).bind fun t121 => (if t121 = true then ((spec_l14Reg.f a0_3).bind fun t122 => (some t122)) else (some false))) else (some false))) = some r := by rw [if_pos rfl] at H; exact H
                  clear H
                  have H := H1
                  clear H1
                  replace H := Option.bind_eq_some_iff.mp H
                  obtain ⟨t120, A310, H⟩ := H
                  replace H : (if t120 = true then ((spec_l14Reg.f a0_2).bind fun t121 => (if t121 = true then ((spec_l14Reg.f a0_3).bind fun t122 => (some t122)) else (some false))) else (some false)) = some r := H
                  have A31 := Aside0.mk A310
                  clear A310
                  by_cases c32 : t120 = true
                  · subst c32
                    have H1 : ((spec_l14Reg.f a0_2).bind fun t121 => (if t121 = true then ((spec_l14Reg.f a0_3).bind fun t122 => (some t122)) else (some false))) = some r := by rw [if_pos rfl] at H; exact H
                    clear H
                    have H := H1
                    clear H1
                    replace H := Option.bind_eq_some_iff.mp H
                    obtain ⟨t121, A330, H⟩ := H
                    replace H : (if t121 = true then ((spec_l14Reg.f a0_3).bind fun t122 => (some t122)) else (some false)) = some r := H
                    have A33 := Aside0.mk A330
                    clear A330
                    by_cases c34 : t121 = true
                    · subst c34
                      have H1 : ((spec_l14Reg.f a0_3).bind fun t122 => (some t122)) = some r := by rw [if_pos rfl] at H; exact H
                      clear H
                      have H := H1
                      clear H1
                      replace H := Option.bind_eq_some_iff.mp H
                      obtain ⟨t122, A350, H⟩ := H
                      replace H : (some t122) = some r := H
                      have A35 := Aside0.mk A350
                      clear A350
                      obtain rfl := Option.some.inj H
                      have hcz36_0 : wc.cell? ⟨gb106, 0, none⟩ = some (.int .i64 a0_0) := (blk_cell BK106.out 0).trans rfl
                      have hcz36_1 : wc.cell? ⟨gb106, 1, none⟩ = some (.int .i64 a0_1) := (blk_cell BK106.out 1).trans rfl
                      have hcz36_2 : wc.cell? ⟨gb106, 2, none⟩ = some (.int .i64 a0_2) := (blk_cell BK106.out 2).trans rfl
                      have hcz36_3 : wc.cell? ⟨gb106, 3, none⟩ = some (.int .i64 a0_3) := (blk_cell BK106.out 3).trans rfl
                      have hfz36_0 := blk_frozen BK106.out 0
                      have hfz36_1 := blk_frozen BK106.out 1
                      have hfz36_2 := blk_frozen BK106.out 2
                      have hfz36_3 := blk_frozen BK106.out 3
                      go_wp2_with (first | ((with_reducible refine gate_callee (f := 47) rfl ?_); refine goesL_ (some 56) rfl rfl Try.func47 (by kernel_rfl) rfl #[.int .i64 a0_1, .int .i64 1, .int .i64 8] rfl (by (try simp only [List.map_toArray, List.map_cons, List.map_nil]); first | done | rfl | (simp only [List.length_drop, List.length_take]; rfl)) ?_; (with_reducible refine (spec_l01In.calls a0_1 1 8 true _ A31.out).mono ?_); rintro e w' ⟨rfl, ⟨nd, rfl⟩⟩; refine ⟨_, rfl, ?_⟩) | (go_at_call 56; (with_reducible refine (spec_l14Reg.calls a0_2 true _ A33.out).mono ?_); rintro e w' ⟨rfl, ⟨nd, rfl⟩⟩) | (go_at_call 56; (with_reducible refine (spec_l14Reg.calls a0_3 t122 _ A35.out).mono ?_); rintro e w' ⟨rfl, ⟨nd, rfl⟩⟩))
                      go_ret
                      exact ⟨by first | rfl | (simp [errW_none, errW_some] <;> rfl) | (simp [*, errW_none, errW_some] <;> rfl), by repeat (first | (with_reducible first | exact HB.out | apply below_alloc | apply pw_below_drewN | apply below_drew1 | refine below_set ?_ GE106.out) | exact HB.out)⟩
                    · replace c34 := Bool.eq_false_iff.mpr c34
                      subst c34
                      have H1 : (some false) = some r := by rw [if_neg (show ¬ (false = true) by decide)] at H; exact H
                      clear H
                      have H := H1
                      clear H1
                      obtain rfl := Option.some.inj H
                      have hcz37_0 : wc.cell? ⟨gb106, 0, none⟩ = some (.int .i64 a0_0) := (blk_cell BK106.out 0).trans rfl
                      have hcz37_1 : wc.cell? ⟨gb106, 1, none⟩ = some (.int .i64 a0_1) := (blk_cell BK106.out 1).trans rfl
                      have hcz37_2 : wc.cell? ⟨gb106, 2, none⟩ = some (.int .i64 a0_2) := (blk_cell BK106.out 2).trans rfl
                      have hcz37_3 : wc.cell? ⟨gb106, 3, none⟩ = some (.int .i64 a0_3) := (blk_cell BK106.out 3).trans rfl
                      have hfz37_0 := blk_frozen BK106.out 0
                      have hfz37_1 := blk_frozen BK106.out 1
                      have hfz37_2 := blk_frozen BK106.out 2
                      have hfz37_3 := blk_frozen BK106.out 3
                      go_wp2_with (first | ((with_reducible refine gate_callee (f := 47) rfl ?_); refine goesL_ (some 56) rfl rfl Try.func47 (by kernel_rfl) rfl #[.int .i64 a0_1, .int .i64 1, .int .i64 8] rfl (by (try simp only [List.map_toArray, List.map_cons, List.map_nil]); first | done | rfl | (simp only [List.length_drop, List.length_take]; rfl)) ?_; (with_reducible refine (spec_l01In.calls a0_1 1 8 true _ A31.out).mono ?_); rintro e w' ⟨rfl, ⟨nd, rfl⟩⟩; refine ⟨_, rfl, ?_⟩) | (go_at_call 56; (with_reducible refine (spec_l14Reg.calls a0_2 false _ A33.out).mono ?_); rintro e w' ⟨rfl, ⟨nd, rfl⟩⟩))
                      go_ret
                      exact ⟨by first | rfl | (simp [errW_none, errW_some] <;> rfl) | (simp [*, errW_none, errW_some] <;> rfl), by repeat (first | (with_reducible first | exact HB.out | apply below_alloc | apply pw_below_drewN | apply below_drew1 | refine below_set ?_ GE106.out) | exact HB.out)⟩
                  · replace c32 := Bool.eq_false_iff.mpr c32
                    subst c32
                    have H1 : (some false) = some r := by rw [if_neg (show ¬ (false = true) by decide)] at H; exact H
                    clear H
                    have H := H1
                    clear H1
                    obtain rfl := Option.some.inj H
                    have hcz38_0 : wc.cell? ⟨gb106, 0, none⟩ = some (.int .i64 a0_0) := (blk_cell BK106.out 0).trans rfl
                    have hcz38_1 : wc.cell? ⟨gb106, 1, none⟩ = some (.int .i64 a0_1) := (blk_cell BK106.out 1).trans rfl
                    have hcz38_2 : wc.cell? ⟨gb106, 2, none⟩ = some (.int .i64 a0_2) := (blk_cell BK106.out 2).trans rfl
                    have hcz38_3 : wc.cell? ⟨gb106, 3, none⟩ = some (.int .i64 a0_3) := (blk_cell BK106.out 3).trans rfl
                    have hfz38_0 := blk_frozen BK106.out 0
                    have hfz38_1 := blk_frozen BK106.out 1
                    have hfz38_2 := blk_frozen BK106.out 2
                    have hfz38_3 := blk_frozen BK106.out 3
                    go_wp2_with (first | ((with_reducible refine gate_callee (f := 47) rfl ?_); refine goesL_ (some 56) rfl rfl Try.func47 (by kernel_rfl) rfl #[.int .i64 a0_1, .int .i64 1, .int .i64 8] rfl (by (try simp only [List.map_toArray, List.map_cons, List.map_nil]); first | done | rfl | (simp only [List.length_drop, List.length_take]; rfl)) ?_; (with_reducible refine (spec_l01In.calls a0_1 1 8 false _ A31.out).mono ?_); rintro e w' ⟨rfl, ⟨nd, rfl⟩⟩; refine ⟨_, rfl, ?_⟩))
                    go_ret
                    exact ⟨by first | rfl | (simp [errW_none, errW_some] <;> rfl) | (simp [*, errW_none, errW_some] <;> rfl), by repeat (first | (with_reducible first | exact HB.out | apply below_alloc | apply pw_below_drewN | apply below_drew1 | refine below_set ?_ GE106.out) | exact HB.out)⟩
                · replace c30 := Bool.eq_false_iff.mpr c30
                  subst c30
                  have H1 : ((some (a0_0 == 5)).bind fun t123 => (if t123 = true then (spec_StmtOK.j2 kj6 t107 x4_1 a0_0 t123 a0_0 a0_1 a0_2 a0_3) else ((some (a0_0 == 6)).bind fun t124 => (spec_StmtOK.j2 kj6 t107 x4_1 a0_0 t124 a0_0 a0_1 a0_2 a0_3)))) = some r := by rw [if_neg (show ¬ (false = true) by decide)] at H; exact H
                  clear H
                  have H := H1
                  clear H1
                  replace H := Option.bind_eq_some_iff.mp H
                  obtain ⟨t123, hnbt123, H⟩ := H
                  replace H : (if t123 = true then (spec_StmtOK.j2 kj6 t107 x4_1 a0_0 t123 a0_0 a0_1 a0_2 a0_3) else ((some (a0_0 == 6)).bind fun t124 => (spec_StmtOK.j2 kj6 t107 x4_1 a0_0 t124 a0_0 a0_1 a0_2 a0_3))) = some r := H
                  replace hnbt123 : (a0_0 == 5) = t123 := Option.some.inj hnbt123
                  have HC39 := Aside0.mk H
                  clear H
                  go_upto_if 67 with (fail)
                  go_cut [67] (fun v67 wc => ∃ (kq : Nat) (x67_38 : Bool), v67 = .bool x67_38 ∧ Aside0 (spec_StmtOK.j2 kq t107 x4_1 a0_0 x67_38 a0_0 a0_1 a0_2 a0_3 = some r) ∧ Aside0 (kq ≤ kj6) ∧ Aside0 (wc.heap[gb106]? = some (.cells #[.int .i64 a0_0, .int .i64 a0_1, .int .i64 a0_2, .int .i64 a0_3] 37 (0, 0))) ∧ Aside0 (Below w.heap.size w wc))
                  case first =>
                    have H := HC39.out
                    clear HC39
                    by_cases c40 : t123 = true
                    · subst c40
                      have H1 : (spec_StmtOK.j2 kj6 t107 x4_1 a0_0 true a0_0 a0_1 a0_2 a0_3) = some r := by rw [if_pos rfl] at H; exact H
                      clear H
                      have H := H1
                      clear H1
                      have H' := Aside0.mk H
                      clear H
                      go_wp2
                      go_meet
                      case rel => exact ⟨_, (true), (by first | rfl | (simp; done) | (simp [*]; done)), H', ⟨by have := HJ1.out; have := HJ6.out; first | omega | exact Nat.le_refl _⟩, ⟨by (with_reducible repeat (first | refine blk_drewN ?_ _ | refine blk_drew ?_ | refine blk_alloc ?_ _)); exact BK106.out⟩, ⟨by repeat (first | (with_reducible first | exact HB.out | apply below_alloc | apply pw_below_drewN | apply below_drew1 | refine below_set ?_ GE106.out) | exact HB.out)⟩⟩
                    · replace c40 := Bool.eq_false_iff.mpr c40
                      subst c40
                      have H1 : ((some (a0_0 == 6)).bind fun t124 => (spec_StmtOK.j2 kj6 t107 x4_1 a0_0 t124 a0_0 a0_1 a0_2 a0_3)) = some r := by rw [if_neg (show ¬ (false = true) by decide)] at H; exact H
                      clear H
                      have H := H1
                      clear H1
                      replace H := Option.bind_eq_some_iff.mp H
                      obtain ⟨t124, hnbt124, H⟩ := H
                      replace H : (spec_StmtOK.j2 kj6 t107 x4_1 a0_0 t124 a0_0 a0_1 a0_2 a0_3) = some r := H
                      replace hnbt124 : (a0_0 == 6) = t124 := Option.some.inj hnbt124
                      have H' := Aside0.mk H
                      clear H
                      go_wp2
                      go_meet
                      case rel => exact ⟨_, (t124), (by first | rfl | (simp; done) | (simp [*]; done)), H', ⟨by have := HJ1.out; have := HJ6.out; first | omega | exact Nat.le_refl _⟩, ⟨by (with_reducible repeat (first | refine blk_drewN ?_ _ | refine blk_drew ?_ | refine blk_alloc ?_ _)); exact BK106.out⟩, ⟨by repeat (first | (with_reducible first | exact HB.out | apply below_alloc | apply pw_below_drewN | apply below_drew1 | refine below_set ?_ GE106.out) | exact HB.out)⟩⟩
                  case rest =>
                    clear HC39
                    try clear c1
                    try clear c2
                    try clear p2
                    try clear c3
                    try clear c4
                    try clear c5
                    try clear c9
                    try clear c10
                    try clear c11
                    try clear c12
                    try clear c15
                    try clear c16
                    try clear c18
                    try clear c23
                    try clear c24
                    try clear c26
                    try clear c30
                    try clear c32
                    try clear c34
                    try clear c40
                    try clear hcz14_0
                    try clear hcz14_1
                    try clear hcz14_2
                    try clear hcz14_3
                    try clear hcz20_0
                    try clear hcz20_1
                    try clear hcz20_2
                    try clear hcz20_3
                    try clear hcz22_0
                    try clear hcz22_1
                    try clear hcz22_2
                    try clear hcz22_3
                    try clear hcz28_0
                    try clear hcz28_1
                    try clear hcz28_2
                    try clear hcz28_3
                    try clear hcz29_0
                    try clear hcz29_1
                    try clear hcz29_2
                    try clear hcz29_3
                    try clear hcz36_0
                    try clear hcz36_1
                    try clear hcz36_2
                    try clear hcz36_3
                    try clear hcz37_0
                    try clear hcz37_1
                    try clear hcz37_2
                    try clear hcz37_3
                    try clear hcz38_0
                    try clear hcz38_1
                    try clear hcz38_2
                    try clear hcz38_3
                    try clear hcz4_0
                    try clear hcz4_1
                    try clear hcz4_2
                    try clear hcz4_3
                    try clear hcz6_0
                    try clear hcz6_1
                    try clear hcz6_2
                    try clear hcz6_3
                    try clear hcz8_0
                    try clear hcz8_1
                    try clear hcz8_2
                    try clear hcz8_3
                    try clear hfz14_0
                    try clear hfz14_1
                    try clear hfz14_2
                    try clear hfz14_3
                    try clear hfz20_0
                    try clear hfz20_1
                    try clear hfz20_2
                    try clear hfz20_3
                    try clear hfz22_0
                    try clear hfz22_1
                    try clear hfz22_2
                    try clear hfz22_3
                    try clear hfz28_0
                    try clear hfz28_1
                    try clear hfz28_2
                    try clear hfz28_3
                    try clear hfz29_0
                    try clear hfz29_1
                    try clear hfz29_2
                    try clear hfz29_3
                    try clear hfz36_0
                    try clear hfz36_1
                    try clear hfz36_2
                    try clear hfz36_3
                    try clear hfz37_0
                    try clear hfz37_1
                    try clear hfz37_2
                    try clear hfz37_3
                    try clear hfz38_0
                    try clear hfz38_1
                    try clear hfz38_2
                    try clear hfz38_3
                    try clear hfz4_0
                    try clear hfz4_1
                    try clear hfz4_2
                    try clear hfz4_3
                    try clear hfz6_0
                    try clear hfz6_1
                    try clear hfz6_2
                    try clear hfz6_3
                    try clear hfz8_0
                    try clear hfz8_1
                    try clear hfz8_2
                    try clear hfz8_3
                    try clear p2
                    obtain ⟨kq, x67_38, rfl, HA, HJ38, BK106, HB⟩ := hcut
                    cases kq with
                    | zero => exact absurd HA.out (by simp [spec_StmtOK.j2])
                    | succ kj38 =>
                      have H := HA.out
                      clear HA
                      simp only [spec_StmtOK.j2] at H
                      by_cases c41 : x67_38 = true
                      · subst c41
                        have H1 : ((spec_l14Reg.f a0_1).bind fun t125 => (if t125 = true then ((spec_l14Reg.f a0_2).bind fun t126 => (if t126 = true then ((spec_l14Disp.f a0_3).bind fun t127 => (some t127)) else (some false))) else (some false))) = some r := by rw [if_pos rfl] at H; exact H
                        clear H
                        have H := H1
                        clear H1
                        replace H := Option.bind_eq_some_iff.mp H
                        obtain ⟨t125, A420, H⟩ := H
                        replace H : (if t125 = true then ((spec_l14Reg.f a0_2).bind fun t126 => (if t126 = true then ((spec_l14Disp.f a0_3).bind fun t127 => (some t127)) else (some false))) else (some false)) = some r := H
                        have A42 := Aside0.mk A420
                        clear A420
                        by_cases c43 : t125 = true
                        · subst c43
                          have H1 : ((spec_l14Reg.f a0_2).bind fun t126 => (if t126 = true then ((spec_l14Disp.f a0_3).bind fun t127 => (some t127)) else (some false))) = some r := by rw [if_pos rfl] at H; exact H
                          clear H
                          have H := H1
                          clear H1
                          replace H := Option.bind_eq_some_iff.mp H
                          obtain ⟨t126, A440, H⟩ := H
                          replace H : (if t126 = true then ((spec_l14Disp.f a0_3).bind fun t127 => (some t127)) else (some false)) = some r := H
                          have A44 := Aside0.mk A440
                          clear A440
                          by_cases c45 : t126 = true
                          · subst c45
                            have H1 : ((spec_l14Disp.f a0_3).bind fun t127 => (some t127)) = some r := by rw [if_pos rfl] at H; exact H
                            clear H
                            have H := H1
                            clear H1
                            replace H := Option.bind_eq_some_iff.mp H
                            obtain ⟨t127, A460, H⟩ := H
                            replace H : (some t127) = some r := H
                            have A46 := Aside0.mk A460
                            clear A460
                            obtain rfl := Option.some.inj H
                            have hcz47_0 : wc.cell? ⟨gb106, 0, none⟩ = some (.int .i64 a0_0) := (blk_cell BK106.out 0).trans rfl
                            have hcz47_1 : wc.cell? ⟨gb106, 1, none⟩ = some (.int .i64 a0_1) := (blk_cell BK106.out 1).trans rfl
                            have hcz47_2 : wc.cell? ⟨gb106, 2, none⟩ = some (.int .i64 a0_2) := (blk_cell BK106.out 2).trans rfl
                            have hcz47_3 : wc.cell? ⟨gb106, 3, none⟩ = some (.int .i64 a0_3) := (blk_cell BK106.out 3).trans rfl
                            have hfz47_0 := blk_frozen BK106.out 0
                            have hfz47_1 := blk_frozen BK106.out 1
                            have hfz47_2 := blk_frozen BK106.out 2
                            have hfz47_3 := blk_frozen BK106.out 3
                            go_wp2_with (first | ((with_reducible refine gate_callee (f := 56) rfl ?_); refine goesL_ (some 72) rfl rfl Try.func56 (by kernel_rfl) rfl #[.int .i64 a0_1] rfl (by (try simp only [List.map_toArray, List.map_cons, List.map_nil]); first | done | rfl | (simp only [List.length_drop, List.length_take]; rfl)) ?_; (with_reducible refine (spec_l14Reg.calls a0_1 true _ A42.out).mono ?_); rintro e w' ⟨rfl, ⟨nd, rfl⟩⟩; refine ⟨_, rfl, ?_⟩) | (go_at_call 56; (with_reducible refine (spec_l14Reg.calls a0_2 true _ A44.out).mono ?_); rintro e w' ⟨rfl, ⟨nd, rfl⟩⟩) | (go_at_call 58; (with_reducible refine (spec_l14Disp.calls a0_3 t127 _ A46.out).mono ?_); rintro e w' ⟨rfl, ⟨nd, rfl⟩⟩))
                            go_ret
                            exact ⟨by first | rfl | (simp [errW_none, errW_some] <;> rfl) | (simp [*, errW_none, errW_some] <;> rfl), by repeat (first | (with_reducible first | exact HB.out | apply below_alloc | apply pw_below_drewN | apply below_drew1 | refine below_set ?_ GE106.out) | exact HB.out)⟩
                          · replace c45 := Bool.eq_false_iff.mpr c45
                            subst c45
                            have H1 : (some false) = some r := by rw [if_neg (show ¬ (false = true) by decide)] at H; exact H
                            clear H
                            have H := H1
                            clear H1
                            obtain rfl := Option.some.inj H
                            have hcz48_0 : wc.cell? ⟨gb106, 0, none⟩ = some (.int .i64 a0_0) := (blk_cell BK106.out 0).trans rfl
                            have hcz48_1 : wc.cell? ⟨gb106, 1, none⟩ = some (.int .i64 a0_1) := (blk_cell BK106.out 1).trans rfl
                            have hcz48_2 : wc.cell? ⟨gb106, 2, none⟩ = some (.int .i64 a0_2) := (blk_cell BK106.out 2).trans rfl
                            have hcz48_3 : wc.cell? ⟨gb106, 3, none⟩ = some (.int .i64 a0_3) := (blk_cell BK106.out 3).trans rfl
                            have hfz48_0 := blk_frozen BK106.out 0
                            have hfz48_1 := blk_frozen BK106.out 1
                            have hfz48_2 := blk_frozen BK106.out 2
                            have hfz48_3 := blk_frozen BK106.out 3
                            go_wp2_with (first | ((with_reducible refine gate_callee (f := 56) rfl ?_); refine goesL_ (some 72) rfl rfl Try.func56 (by kernel_rfl) rfl #[.int .i64 a0_1] rfl (by (try simp only [List.map_toArray, List.map_cons, List.map_nil]); first | done | rfl | (simp only [List.length_drop, List.length_take]; rfl)) ?_; (with_reducible refine (spec_l14Reg.calls a0_1 true _ A42.out).mono ?_); rintro e w' ⟨rfl, ⟨nd, rfl⟩⟩; refine ⟨_, rfl, ?_⟩) | (go_at_call 56; (with_reducible refine (spec_l14Reg.calls a0_2 false _ A44.out).mono ?_); rintro e w' ⟨rfl, ⟨nd, rfl⟩⟩))
                            go_ret
                            exact ⟨by first | rfl | (simp [errW_none, errW_some] <;> rfl) | (simp [*, errW_none, errW_some] <;> rfl), by repeat (first | (with_reducible first | exact HB.out | apply below_alloc | apply pw_below_drewN | apply below_drew1 | refine below_set ?_ GE106.out) | exact HB.out)⟩
                        · replace c43 := Bool.eq_false_iff.mpr c43
                          subst c43
                          have H1 : (some false) = some r := by rw [if_neg (show ¬ (false = true) by decide)] at H; exact H
                          clear H
                          have H := H1
                          clear H1
                          obtain rfl := Option.some.inj H
                          have hcz49_0 : wc.cell? ⟨gb106, 0, none⟩ = some (.int .i64 a0_0) := (blk_cell BK106.out 0).trans rfl
                          have hcz49_1 : wc.cell? ⟨gb106, 1, none⟩ = some (.int .i64 a0_1) := (blk_cell BK106.out 1).trans rfl
                          have hcz49_2 : wc.cell? ⟨gb106, 2, none⟩ = some (.int .i64 a0_2) := (blk_cell BK106.out 2).trans rfl
                          have hcz49_3 : wc.cell? ⟨gb106, 3, none⟩ = some (.int .i64 a0_3) := (blk_cell BK106.out 3).trans rfl
                          have hfz49_0 := blk_frozen BK106.out 0
                          have hfz49_1 := blk_frozen BK106.out 1
                          have hfz49_2 := blk_frozen BK106.out 2
                          have hfz49_3 := blk_frozen BK106.out 3
                          go_wp2_with (first | ((with_reducible refine gate_callee (f := 56) rfl ?_); refine goesL_ (some 72) rfl rfl Try.func56 (by kernel_rfl) rfl #[.int .i64 a0_1] rfl (by (try simp only [List.map_toArray, List.map_cons, List.map_nil]); first | done | rfl | (simp only [List.length_drop, List.length_take]; rfl)) ?_; (with_reducible refine (spec_l14Reg.calls a0_1 false _ A42.out).mono ?_); rintro e w' ⟨rfl, ⟨nd, rfl⟩⟩; refine ⟨_, rfl, ?_⟩))
                          go_ret
                          exact ⟨by first | rfl | (simp [errW_none, errW_some] <;> rfl) | (simp [*, errW_none, errW_some] <;> rfl), by repeat (first | (with_reducible first | exact HB.out | apply below_alloc | apply pw_below_drewN | apply below_drew1 | refine below_set ?_ GE106.out) | exact HB.out)⟩
                      · replace c41 := Bool.eq_false_iff.mpr c41
                        subst c41
                        have H1 : ((some (a0_0 == 7)).bind fun t128 => (if t128 = true then (spec_StmtOK.j3 kj38 t107 x4_1 a0_0 t128 a0_0 a0_1 a0_2 a0_3) else ((some (a0_0 == 8)).bind fun t129 => (if t129 = true then (spec_StmtOK.j3 kj38 t107 x4_1 a0_0 t129 a0_0 a0_1 a0_2 a0_3) else ((some (a0_0 == 16)).bind fun t130 => (spec_StmtOK.j3 kj38 t107 x4_1 a0_0 t130 a0_0 a0_1 a0_2 a0_3)))))) = some r := by rw [if_neg (show ¬ (false = true) by decide)] at H; exact H
                        clear H
                        have H := H1
                        clear H1
                        replace H := Option.bind_eq_some_iff.mp H
                        obtain ⟨t128, hnbt128, H⟩ := H
                        replace H : (if t128 = true then (spec_StmtOK.j3 kj38 t107 x4_1 a0_0 t128 a0_0 a0_1 a0_2 a0_3) else ((some (a0_0 == 8)).bind fun t129 => (if t129 = true then (spec_StmtOK.j3 kj38 t107 x4_1 a0_0 t129 a0_0 a0_1 a0_2 a0_3) else ((some (a0_0 == 16)).bind fun t130 => (spec_StmtOK.j3 kj38 t107 x4_1 a0_0 t130 a0_0 a0_1 a0_2 a0_3))))) = some r := H
                        replace hnbt128 : (a0_0 == 7) = t128 := Option.some.inj hnbt128
                        have HC50 := Aside0.mk H
                        clear H
                        go_upto_if 83 with (fail)
                        go_cut [83] (fun v83 wc => ∃ (kq : Nat) (x83_49 : Bool), v83 = .bool x83_49 ∧ Aside0 (spec_StmtOK.j3 kq t107 x4_1 a0_0 x83_49 a0_0 a0_1 a0_2 a0_3 = some r) ∧ Aside0 (kq ≤ kj38) ∧ Aside0 (wc.heap[gb106]? = some (.cells #[.int .i64 a0_0, .int .i64 a0_1, .int .i64 a0_2, .int .i64 a0_3] 37 (0, 0))) ∧ Aside0 (Below w.heap.size w wc))
                        case first =>
                          have H := HC50.out
                          clear HC50
                          by_cases c51 : t128 = true
                          · subst c51
                            have H1 : (spec_StmtOK.j3 kj38 t107 x4_1 a0_0 true a0_0 a0_1 a0_2 a0_3) = some r := by rw [if_pos rfl] at H; exact H
                            clear H
                            have H := H1
                            clear H1
                            have H' := Aside0.mk H
                            clear H
                            go_wp2
                            go_meet
                            case rel => exact ⟨_, (true), (by first | rfl | (simp; done) | (simp [*]; done)), H', ⟨by have := HJ1.out; have := HJ6.out; have := HJ38.out; first | omega | exact Nat.le_refl _⟩, ⟨by (with_reducible repeat (first | refine blk_drewN ?_ _ | refine blk_drew ?_ | refine blk_alloc ?_ _)); exact BK106.out⟩, ⟨by repeat (first | (with_reducible first | exact HB.out | apply below_alloc | apply pw_below_drewN | apply below_drew1 | refine below_set ?_ GE106.out) | exact HB.out)⟩⟩
                          · replace c51 := Bool.eq_false_iff.mpr c51
                            subst c51
                            have H1 : ((some (a0_0 == 8)).bind fun t129 => (if t129 = true then (spec_StmtOK.j3 kj38 t107 x4_1 a0_0 t129 a0_0 a0_1 a0_2 a0_3) else ((some (a0_0 == 16)).bind fun t130 => (spec_StmtOK.j3 kj38 t107 x4_1 a0_0 t130 a0_0 a0_1 a0_2 a0_3)))) = some r := by rw [if_neg (show ¬ (false = true) by decide)] at H; exact H
                            clear H
                            have H := H1
                            clear H1
                            replace H := Option.bind_eq_some_iff.mp H
                            obtain ⟨t129, hnbt129, H⟩ := H
                            replace H : (if t129 = true then (spec_StmtOK.j3 kj38 t107 x4_1 a0_0 t129 a0_0 a0_1 a0_2 a0_3) else ((some (a0_0 == 16)).bind fun t130 => (spec_StmtOK.j3 kj38 t107 x4_1 a0_0 t130 a0_0 a0_1 a0_2 a0_3))) = some r := H
                            replace hnbt129 : (a0_0 == 8) = t129 := Option.some.inj hnbt129
                            by_cases c52 : t129 = true
                            · subst c52
                              have H1 : (spec_StmtOK.j3 kj38 t107 x4_1 a0_0 true a0_0 a0_1 a0_2 a0_3) = some r := by rw [if_pos rfl] at H; exact H
                              clear H
                              have H := H1
                              clear H1
                              have H' := Aside0.mk H
                              clear H
                              go_wp2
                              go_meet
                              case rel => exact ⟨_, (true), (by first | rfl | (simp; done) | (simp [*]; done)), H', ⟨by have := HJ1.out; have := HJ6.out; have := HJ38.out; first | omega | exact Nat.le_refl _⟩, ⟨by (with_reducible repeat (first | refine blk_drewN ?_ _ | refine blk_drew ?_ | refine blk_alloc ?_ _)); exact BK106.out⟩, ⟨by repeat (first | (with_reducible first | exact HB.out | apply below_alloc | apply pw_below_drewN | apply below_drew1 | refine below_set ?_ GE106.out) | exact HB.out)⟩⟩
                            · replace c52 := Bool.eq_false_iff.mpr c52
                              subst c52
                              have H1 : ((some (a0_0 == 16)).bind fun t130 => (spec_StmtOK.j3 kj38 t107 x4_1 a0_0 t130 a0_0 a0_1 a0_2 a0_3)) = some r := by rw [if_neg (show ¬ (false = true) by decide)] at H; exact H
                              clear H
                              have H := H1
                              clear H1
                              replace H := Option.bind_eq_some_iff.mp H
                              obtain ⟨t130, hnbt130, H⟩ := H
                              replace H : (spec_StmtOK.j3 kj38 t107 x4_1 a0_0 t130 a0_0 a0_1 a0_2 a0_3) = some r := H
                              replace hnbt130 : (a0_0 == 16) = t130 := Option.some.inj hnbt130
                              have H' := Aside0.mk H
                              clear H
                              go_wp2
                              go_meet
                              case rel => exact ⟨_, (t130), (by first | rfl | (simp; done) | (simp [*]; done)), H', ⟨by have := HJ1.out; have := HJ6.out; have := HJ38.out; first | omega | exact Nat.le_refl _⟩, ⟨by (with_reducible repeat (first | refine blk_drewN ?_ _ | refine blk_drew ?_ | refine blk_alloc ?_ _)); exact BK106.out⟩, ⟨by repeat (first | (with_reducible first | exact HB.out | apply below_alloc | apply pw_below_drewN | apply below_drew1 | refine below_set ?_ GE106.out) | exact HB.out)⟩⟩
                        case rest =>
                          clear HC50
                          try clear c1
                          try clear c2
                          try clear p2
                          try clear c3
                          try clear c4
                          try clear c5
                          try clear c9
                          try clear c10
                          try clear c11
                          try clear c12
                          try clear c15
                          try clear c16
                          try clear c18
                          try clear c23
                          try clear c24
                          try clear c26
                          try clear c30
                          try clear c32
                          try clear c34
                          try clear c40
                          try clear c41
                          try clear c43
                          try clear c45
                          try clear c47
                          try clear c51
                          try clear c52
                          try clear hcz14_0
                          try clear hcz14_1
                          try clear hcz14_2
                          try clear hcz14_3
                          try clear hcz20_0
                          try clear hcz20_1
                          try clear hcz20_2
                          try clear hcz20_3
                          try clear hcz22_0
                          try clear hcz22_1
                          try clear hcz22_2
                          try clear hcz22_3
                          try clear hcz28_0
                          try clear hcz28_1
                          try clear hcz28_2
                          try clear hcz28_3
                          try clear hcz29_0
                          try clear hcz29_1
                          try clear hcz29_2
                          try clear hcz29_3
                          try clear hcz36_0
                          try clear hcz36_1
                          try clear hcz36_2
                          try clear hcz36_3
                          try clear hcz37_0
                          try clear hcz37_1
                          try clear hcz37_2
                          try clear hcz37_3
                          try clear hcz38_0
                          try clear hcz38_1
                          try clear hcz38_2
                          try clear hcz38_3
                          try clear hcz47_0
                          try clear hcz47_1
                          try clear hcz47_2
                          try clear hcz47_3
                          try clear hcz48_0
                          try clear hcz48_1
                          try clear hcz48_2
                          try clear hcz48_3
                          try clear hcz49_0
                          try clear hcz49_1
                          try clear hcz49_2
                          try clear hcz49_3
                          try clear hcz4_0
                          try clear hcz4_1
                          try clear hcz4_2
                          try clear hcz4_3
                          try clear hcz6_0
                          try clear hcz6_1
                          try clear hcz6_2
                          try clear hcz6_3
                          try clear hcz8_0
                          try clear hcz8_1
                          try clear hcz8_2
                          try clear hcz8_3
                          try clear hfz14_0
                          try clear hfz14_1
                          try clear hfz14_2
                          try clear hfz14_3
                          try clear hfz20_0
                          try clear hfz20_1
                          try clear hfz20_2
                          try clear hfz20_3
                          try clear hfz22_0
                          try clear hfz22_1
                          try clear hfz22_2
                          try clear hfz22_3
                          try clear hfz28_0
                          try clear hfz28_1
                          try clear hfz28_2
                          try clear hfz28_3
                          try clear hfz29_0
                          try clear hfz29_1
                          try clear hfz29_2
                          try clear hfz29_3
                          try clear hfz36_0
                          try clear hfz36_1
                          try clear hfz36_2
                          try clear hfz36_3
                          try clear hfz37_0
                          try clear hfz37_1
                          try clear hfz37_2
                          try clear hfz37_3
                          try clear hfz38_0
                          try clear hfz38_1
                          try clear hfz38_2
                          try clear hfz38_3
                          try clear hfz47_0
                          try clear hfz47_1
                          try clear hfz47_2
                          try clear hfz47_3
                          try clear hfz48_0
                          try clear hfz48_1
                          try clear hfz48_2
                          try clear hfz48_3
                          try clear hfz49_0
                          try clear hfz49_1
                          try clear hfz49_2
                          try clear hfz49_3
                          try clear hfz4_0
                          try clear hfz4_1
                          try clear hfz4_2
                          try clear hfz4_3
                          try clear hfz6_0
                          try clear hfz6_1
                          try clear hfz6_2
                          try clear hfz6_3
                          try clear hfz8_0
                          try clear hfz8_1
                          try clear hfz8_2
                          try clear hfz8_3
                          try clear p2
                          obtain ⟨kq, x83_49, rfl, HA, HJ49, BK106, HB⟩ := hcut
                          cases kq with
                          | zero => exact absurd HA.out (by simp [spec_StmtOK.j3])
                          | succ kj49 =>
                            have H := HA.out
                            clear HA
                            simp only [spec_StmtOK.j3] at H
                            by_cases c53 : x83_49 = true
                            · subst c53
                              have H1 : (if x4_1 = true then ((spec_l14Reg.f a0_1).bind fun t131 => (some t131)) else (some false)) = some r := by rw [if_pos rfl] at H; exact H
                              clear H
                              have H := H1
                              clear H1
                              by_cases c54 : x4_1 = true
                              · subst c54
                                have H1 : ((spec_l14Reg.f a0_1).bind fun t131 => (some t131)) = some r := by rw [if_pos rfl] at H; exact H
                                clear H
                                have H := H1
                                clear H1
                                replace H := Option.bind_eq_some_iff.mp H
                                obtain ⟨t131, A550, H⟩ := H
                                replace H : (some t131) = some r := H
                                have A55 := Aside0.mk A550
                                clear A550
                                obtain rfl := Option.some.inj H
                                have hcz56_0 : wc.cell? ⟨gb106, 0, none⟩ = some (.int .i64 a0_0) := (blk_cell BK106.out 0).trans rfl
                                have hcz56_1 : wc.cell? ⟨gb106, 1, none⟩ = some (.int .i64 a0_1) := (blk_cell BK106.out 1).trans rfl
                                have hcz56_2 : wc.cell? ⟨gb106, 2, none⟩ = some (.int .i64 a0_2) := (blk_cell BK106.out 2).trans rfl
                                have hcz56_3 : wc.cell? ⟨gb106, 3, none⟩ = some (.int .i64 a0_3) := (blk_cell BK106.out 3).trans rfl
                                have hfz56_0 := blk_frozen BK106.out 0
                                have hfz56_1 := blk_frozen BK106.out 1
                                have hfz56_2 := blk_frozen BK106.out 2
                                have hfz56_3 := blk_frozen BK106.out 3
                                go_wp2_with (first | (go_at_call 56; (with_reducible refine (spec_l14Reg.calls a0_1 t131 _ A55.out).mono ?_); rintro e w' ⟨rfl, ⟨nd, rfl⟩⟩))
                                go_ret
                                exact ⟨by first | rfl | (simp [errW_none, errW_some] <;> rfl) | (simp [*, errW_none, errW_some] <;> rfl), by repeat (first | (with_reducible first | exact HB.out | apply below_alloc | apply pw_below_drewN | apply below_drew1 | refine below_set ?_ GE106.out) | exact HB.out)⟩
                              · replace c54 := Bool.eq_false_iff.mpr c54
                                subst c54
                                have H1 : (some false) = some r := by rw [if_neg (show ¬ (false = true) by decide)] at H; exact H
                                clear H
                                have H := H1
                                clear H1
                                obtain rfl := Option.some.inj H
                                go_wp2
                                go_ret
                                exact ⟨by first | rfl | (simp [errW_none, errW_some] <;> rfl) | (simp [*, errW_none, errW_some] <;> rfl), by repeat (first | (with_reducible first | exact HB.out | apply below_alloc | apply pw_below_drewN | apply below_drew1 | refine below_set ?_ GE106.out) | exact HB.out)⟩
                            · replace c53 := Bool.eq_false_iff.mpr c53
                              subst c53
                              have H1 : ((some (a0_0 == 9)).bind fun t132 => (if t132 = true then (if x4_1 = true then ((spec_l01In.f a0_1 (-256) 256).bind fun t133 => (if t133 = true then (some ((Int.tmod a0_1 8) == 0)) else (some false))) else (some false)) else ((some (a0_0 == 11)).bind fun t134 => (if t134 = true then (if t107 = true then ((spec_l01In.f a0_1 0 15).bind fun t135 => (if t135 = true then ((spec_l14Label.f a0_2).bind fun t136 => (some t136)) else (some false))) else (some false)) else ((some (a0_0 == 14)).bind fun t137 => (if t137 = true then (if x4_1 = true then ((spec_l01In.f a0_1 0 7).bind fun t138 => (some t138)) else (some false)) else ((some (a0_0 == 17)).bind fun t139 => (if t139 = true then (if t107 = true then ((spec_l14Reg.f a0_1).bind fun t140 => (if t140 = true then ((spec_l14Label.f a0_2).bind fun t141 => (some t141)) else (some false))) else (some false)) else ((some (a0_0 == 13)).bind fun t142 => (if t142 = true then (if x4_1 = true then ((some (a0_1 == 0)).bind fun t143 => (some t143)) else (some false)) else ((some (a0_0 == 15)).bind fun t144 => (if t144 = true then (if x4_1 = true then ((some (a0_1 == 0)).bind fun t145 => (some t145)) else (some false)) else (some false))))))))))))) = some r := by rw [if_neg (show ¬ (false = true) by decide)] at H; exact H
                              clear H
                              have H := H1
                              clear H1
                              replace H := Option.bind_eq_some_iff.mp H
                              obtain ⟨t132, hnbt132, H⟩ := H
                              replace H : (if t132 = true then (if x4_1 = true then ((spec_l01In.f a0_1 (-256) 256).bind fun t133 => (if t133 = true then (some ((Int.tmod a0_1 8) == 0)) else (some false))) else (some false)) else ((some (a0_0 == 11)).bind fun t134 => (if t134 = true then (if t107 = true then ((spec_l01In.f a0_1 0 15).bind fun t135 => (if t135 = true then ((spec_l14Label.f a0_2).bind fun t136 => (some t136)) else (some false))) else (some false)) else ((some (a0_0 == 14)).bind fun t137 => (if t137 = true then (if x4_1 = true then ((spec_l01In.f a0_1 0 7).bind fun t138 => (some t138)) else (some false)) else ((some (a0_0 == 17)).bind fun t139 => (if t139 = true then (if t107 = true then ((spec_l14Reg.f a0_1).bind fun t140 => (if t140 = true then ((spec_l14Label.f a0_2).bind fun t141 => (some t141)) else (some false))) else (some false)) else ((some (a0_0 == 13)).bind fun t142 => (if t142 = true then (if x4_1 = true then ((some (a0_1 == 0)).bind fun t143 => (some t143)) else (some false)) else ((some (a0_0 == 15)).bind fun t144 => (if t144 = true then (if x4_1 = true then ((some (a0_1 == 0)).bind fun t145 => (some t145)) else (some false)) else (some false)))))))))))) = some r := H
                              replace hnbt132 : (a0_0 == 9) = t132 := Option.some.inj hnbt132
                              by_cases c57 : t132 = true
                              · subst c57
                                have H1 : (if x4_1 = true then ((spec_l01In.f a0_1 (-256) 256).bind fun t133 => (if t133 = true then (some ((Int.tmod a0_1 8) == 0)) else (some false))) else (some false)) = some r := by rw [if_pos rfl] at H; exact H
                                clear H
                                have H := H1
                                clear H1
                                by_cases c58 : x4_1 = true
                                · subst c58
                                  have H1 : ((spec_l01In.f a0_1 (-256) 256).bind fun t133 => (if t133 = true then (some ((Int.tmod a0_1 8) == 0)) else (some false))) = some r := by rw [if_pos rfl] at H; exact H
                                  clear H
                                  have H := H1
                                  clear H1
                                  replace H := Option.bind_eq_some_iff.mp H
                                  obtain ⟨t133, A590, H⟩ := H
                                  replace H : (if t133 = true then (some ((Int.tmod a0_1 8) == 0)) else (some false)) = some r := H
                                  have A59 := Aside0.mk A590
                                  clear A590
                                  by_cases c60 : t133 = true
                                  · subst c60
                                    have H1 : (some ((Int.tmod a0_1 8) == 0)) = some r := by rw [if_pos rfl] at H; exact H
                                    clear H
                                    have H := H1
                                    clear H1
                                    obtain rfl := Option.some.inj H
                                    have hcz61_0 : wc.cell? ⟨gb106, 0, none⟩ = some (.int .i64 a0_0) := (blk_cell BK106.out 0).trans rfl
                                    have hcz61_1 : wc.cell? ⟨gb106, 1, none⟩ = some (.int .i64 a0_1) := (blk_cell BK106.out 1).trans rfl
                                    have hcz61_2 : wc.cell? ⟨gb106, 2, none⟩ = some (.int .i64 a0_2) := (blk_cell BK106.out 2).trans rfl
                                    have hcz61_3 : wc.cell? ⟨gb106, 3, none⟩ = some (.int .i64 a0_3) := (blk_cell BK106.out 3).trans rfl
                                    have hfz61_0 := blk_frozen BK106.out 0
                                    have hfz61_1 := blk_frozen BK106.out 1
                                    have hfz61_2 := blk_frozen BK106.out 2
                                    have hfz61_3 := blk_frozen BK106.out 3
                                    go_wp2_with (first | (go_at_call 47; (with_reducible refine (spec_l01In.calls a0_1 (-256) 256 true _ A59.out).mono ?_); rintro e w' ⟨rfl, ⟨nd, rfl⟩⟩))
                                    go_ret
                                    exact ⟨by first | rfl | (simp [errW_none, errW_some] <;> rfl) | (simp [*, errW_none, errW_some] <;> rfl), by repeat (first | (with_reducible first | exact HB.out | apply below_alloc | apply pw_below_drewN | apply below_drew1 | refine below_set ?_ GE106.out) | exact HB.out)⟩
                                  · replace c60 := Bool.eq_false_iff.mpr c60
                                    subst c60
                                    have H1 : (some false) = some r := by rw [if_neg (show ¬ (false = true) by decide)] at H; exact H
                                    clear H
                                    have H := H1
                                    clear H1
                                    obtain rfl := Option.some.inj H
                                    have hcz62_0 : wc.cell? ⟨gb106, 0, none⟩ = some (.int .i64 a0_0) := (blk_cell BK106.out 0).trans rfl
                                    have hcz62_1 : wc.cell? ⟨gb106, 1, none⟩ = some (.int .i64 a0_1) := (blk_cell BK106.out 1).trans rfl
                                    have hcz62_2 : wc.cell? ⟨gb106, 2, none⟩ = some (.int .i64 a0_2) := (blk_cell BK106.out 2).trans rfl
                                    have hcz62_3 : wc.cell? ⟨gb106, 3, none⟩ = some (.int .i64 a0_3) := (blk_cell BK106.out 3).trans rfl
                                    have hfz62_0 := blk_frozen BK106.out 0
                                    have hfz62_1 := blk_frozen BK106.out 1
                                    have hfz62_2 := blk_frozen BK106.out 2
                                    have hfz62_3 := blk_frozen BK106.out 3
                                    go_wp2_with (first | (go_at_call 47; (with_reducible refine (spec_l01In.calls a0_1 (-256) 256 false _ A59.out).mono ?_); rintro e w' ⟨rfl, ⟨nd, rfl⟩⟩))
                                    go_ret
                                    exact ⟨by first | rfl | (simp [errW_none, errW_some] <;> rfl) | (simp [*, errW_none, errW_some] <;> rfl), by repeat (first | (with_reducible first | exact HB.out | apply below_alloc | apply pw_below_drewN | apply below_drew1 | refine below_set ?_ GE106.out) | exact HB.out)⟩
                                · replace c58 := Bool.eq_false_iff.mpr c58
                                  subst c58
                                  have H1 : (some false) = some r := by rw [if_neg (show ¬ (false = true) by decide)] at H; exact H
                                  clear H
                                  have H := H1
                                  clear H1
                                  obtain rfl := Option.some.inj H
                                  go_wp2
                                  go_ret
                                  exact ⟨by first | rfl | (simp [errW_none, errW_some] <;> rfl) | (simp [*, errW_none, errW_some] <;> rfl), by repeat (first | (with_reducible first | exact HB.out | apply below_alloc | apply pw_below_drewN | apply below_drew1 | refine below_set ?_ GE106.out) | exact HB.out)⟩
                              · replace c57 := Bool.eq_false_iff.mpr c57
                                subst c57
                                have H1 : ((some (a0_0 == 11)).bind fun t134 => (if t134 = true then (if t107 = true then ((spec_l01In.f a0_1 0 15).bind fun t135 => (if t135 = true then ((spec_l14Label.f a0_2).bind fun t136 => (some t136)) else (some false))) else (some false)) else ((some (a0_0 == 14)).bind fun t137 => (if t137 = true then (if x4_1 = true then ((spec_l01In.f a0_1 0 7).bind fun t138 => (some t138)) else (some false)) else ((some (a0_0 == 17)).bind fun t139 => (if t139 = true then (if t107 = true then ((spec_l14Reg.f a0_1).bind fun t140 => (if t140 = true then ((spec_l14Label.f a0_2).bind fun t141 => (some t141)) else (some false))) else (some false)) else ((some (a0_0 == 13)).bind fun t142 => (if t142 = true then (if x4_1 = true then ((some (a0_1 == 0)).bind fun t143 => (some t143)) else (some false)) else ((some (a0_0 == 15)).bind fun t144 => (if t144 = true then (if x4_1 = true then ((some (a0_1 == 0)).bind fun t145 => (some t145)) else (some false)) else (some false))))))))))) = some r := by rw [if_neg (show ¬ (false = true) by decide)] at H; exact H
                                clear H
                                have H := H1
                                clear H1
                                replace H := Option.bind_eq_some_iff.mp H
                                obtain ⟨t134, hnbt134, H⟩ := H
                                replace H : (if t134 = true then (if t107 = true then ((spec_l01In.f a0_1 0 15).bind fun t135 => (if t135 = true then ((spec_l14Label.f a0_2).bind fun t136 => (some t136)) else (some false))) else (some false)) else ((some (a0_0 == 14)).bind fun t137 => (if t137 = true then (if x4_1 = true then ((spec_l01In.f a0_1 0 7).bind fun t138 => (some t138)) else (some false)) else ((some (a0_0 == 17)).bind fun t139 => (if t139 = true then (if t107 = true then ((spec_l14Reg.f a0_1).bind fun t140 => (if t140 = true then ((spec_l14Label.f a0_2).bind fun t141 => (some t141)) else (some false))) else (some false)) else ((some (a0_0 == 13)).bind fun t142 => (if t142 = true then (if x4_1 = true then ((some (a0_1 == 0)).bind fun t143 => (some t143)) else (some false)) else ((some (a0_0 == 15)).bind fun t144 => (if t144 = true then (if x4_1 = true then ((some (a0_1 == 0)).bind fun t145 => (some t145)) else (some false)) else (some false)))))))))) = some r := H
                                replace hnbt134 : (a0_0 == 11) = t134 := Option.some.inj hnbt134
                                by_cases c63 : t134 = true
                                · subst c63
                                  have H1 : (if t107 = true then ((spec_l01In.f a0_1 0 15).bind fun t135 => (if t135 = true then ((spec_l14Label.f a0_2).bind fun t136 => (some t136)) else (some false))) else (some false)) = some r := by rw [if_pos rfl] at H; exact H
                                  clear H
                                  have H := H1
                                  clear H1
                                  by_cases c64 : t107 = true
                                  · subst c64
                                    have H1 : ((spec_l01In.f a0_1 0 15).bind fun t135 => (if t135 = true then ((spec_l14Label.f a0_2).bind fun t136 => (some t136)) else (some false))) = some r := by rw [if_pos rfl] at H; exact H
                                    clear H
                                    have H := H1
                                    clear H1
                                    replace H := Option.bind_eq_some_iff.mp H
                                    obtain ⟨t135, A650, H⟩ := H
                                    replace H : (if t135 = true then ((spec_l14Label.f a0_2).bind fun t136 => (some t136)) else (some false)) = some r := H
                                    have A65 := Aside0.mk A650
                                    clear A650
                                    by_cases c66 : t135 = true
                                    · subst c66
                                      have H1 : ((spec_l14Label.f a0_2).bind fun t136 => (some t136)) = some r := by rw [if_pos rfl] at H; exact H
                                      clear H
                                      have H := H1
                                      clear H1
                                      replace H := Option.bind_eq_some_iff.mp H
                                      obtain ⟨t136, A670, H⟩ := H
                                      replace H : (some t136) = some r := H
                                      have A67 := Aside0.mk A670
                                      clear A670
                                      obtain rfl := Option.some.inj H
                                      have hcz68_0 : wc.cell? ⟨gb106, 0, none⟩ = some (.int .i64 a0_0) := (blk_cell BK106.out 0).trans rfl
                                      have hcz68_1 : wc.cell? ⟨gb106, 1, none⟩ = some (.int .i64 a0_1) := (blk_cell BK106.out 1).trans rfl
                                      have hcz68_2 : wc.cell? ⟨gb106, 2, none⟩ = some (.int .i64 a0_2) := (blk_cell BK106.out 2).trans rfl
                                      have hcz68_3 : wc.cell? ⟨gb106, 3, none⟩ = some (.int .i64 a0_3) := (blk_cell BK106.out 3).trans rfl
                                      have hfz68_0 := blk_frozen BK106.out 0
                                      have hfz68_1 := blk_frozen BK106.out 1
                                      have hfz68_2 := blk_frozen BK106.out 2
                                      have hfz68_3 := blk_frozen BK106.out 3
                                      go_wp2_with (first | (go_at_call 47; (with_reducible refine (spec_l01In.calls a0_1 0 15 true _ A65.out).mono ?_); rintro e w' ⟨rfl, ⟨nd, rfl⟩⟩) | (go_at_call 55; (with_reducible refine (spec_l14Label.calls a0_2 t136 _ A67.out).mono ?_); rintro e w' ⟨rfl, ⟨nd, rfl⟩⟩))
                                      go_ret
                                      exact ⟨by first | rfl | (simp [errW_none, errW_some] <;> rfl) | (simp [*, errW_none, errW_some] <;> rfl), by repeat (first | (with_reducible first | exact HB.out | apply below_alloc | apply pw_below_drewN | apply below_drew1 | refine below_set ?_ GE106.out) | exact HB.out)⟩
                                    · replace c66 := Bool.eq_false_iff.mpr c66
                                      subst c66
                                      have H1 : (some false) = some r := by rw [if_neg (show ¬ (false = true) by decide)] at H; exact H
                                      clear H
                                      have H := H1
                                      clear H1
                                      obtain rfl := Option.some.inj H
                                      have hcz69_0 : wc.cell? ⟨gb106, 0, none⟩ = some (.int .i64 a0_0) := (blk_cell BK106.out 0).trans rfl
                                      have hcz69_1 : wc.cell? ⟨gb106, 1, none⟩ = some (.int .i64 a0_1) := (blk_cell BK106.out 1).trans rfl
                                      have hcz69_2 : wc.cell? ⟨gb106, 2, none⟩ = some (.int .i64 a0_2) := (blk_cell BK106.out 2).trans rfl
                                      have hcz69_3 : wc.cell? ⟨gb106, 3, none⟩ = some (.int .i64 a0_3) := (blk_cell BK106.out 3).trans rfl
                                      have hfz69_0 := blk_frozen BK106.out 0
                                      have hfz69_1 := blk_frozen BK106.out 1
                                      have hfz69_2 := blk_frozen BK106.out 2
                                      have hfz69_3 := blk_frozen BK106.out 3
                                      go_wp2_with (first | (go_at_call 47; (with_reducible refine (spec_l01In.calls a0_1 0 15 false _ A65.out).mono ?_); rintro e w' ⟨rfl, ⟨nd, rfl⟩⟩))
                                      go_ret
                                      exact ⟨by first | rfl | (simp [errW_none, errW_some] <;> rfl) | (simp [*, errW_none, errW_some] <;> rfl), by repeat (first | (with_reducible first | exact HB.out | apply below_alloc | apply pw_below_drewN | apply below_drew1 | refine below_set ?_ GE106.out) | exact HB.out)⟩
                                  · replace c64 := Bool.eq_false_iff.mpr c64
                                    subst c64
                                    have H1 : (some false) = some r := by rw [if_neg (show ¬ (false = true) by decide)] at H; exact H
                                    clear H
                                    have H := H1
                                    clear H1
                                    obtain rfl := Option.some.inj H
                                    go_wp2
                                    go_ret
                                    exact ⟨by first | rfl | (simp [errW_none, errW_some] <;> rfl) | (simp [*, errW_none, errW_some] <;> rfl), by repeat (first | (with_reducible first | exact HB.out | apply below_alloc | apply pw_below_drewN | apply below_drew1 | refine below_set ?_ GE106.out) | exact HB.out)⟩
                                · replace c63 := Bool.eq_false_iff.mpr c63
                                  subst c63
                                  have H1 : ((some (a0_0 == 14)).bind fun t137 => (if t137 = true then (if x4_1 = true then ((spec_l01In.f a0_1 0 7).bind fun t138 => (some t138)) else (some false)) else ((some (a0_0 == 17)).bind fun t139 => (if t139 = true then (if t107 = true then ((spec_l14Reg.f a0_1).bind fun t140 => (if t140 = true then ((spec_l14Label.f a0_2).bind fun t141 => (some t141)) else (some false))) else (some false)) else ((some (a0_0 == 13)).bind fun t142 => (if t142 = true then (if x4_1 = true then ((some (a0_1 == 0)).bind fun t143 => (some t143)) else (some false)) else ((some (a0_0 == 15)).bind fun t144 => (if t144 = true then (if x4_1 = true then ((some (a0_1 == 0)).bind fun t145 => (some t145)) else (some false)) else (some false))))))))) = some r := by rw [if_neg (show ¬ (false = true) by decide)] at H; exact H
                                  clear H
                                  have H := H1
                                  clear H1
                                  replace H := Option.bind_eq_some_iff.mp H
                                  obtain ⟨t137, hnbt137, H⟩ := H
                                  replace H : (if t137 = true then (if x4_1 = true then ((spec_l01In.f a0_1 0 7).bind fun t138 => (some t138)) else (some false)) else ((some (a0_0 == 17)).bind fun t139 => (if t139 = true then (if t107 = true then ((spec_l14Reg.f a0_1).bind fun t140 => (if t140 = true then ((spec_l14Label.f a0_2).bind fun t141 => (some t141)) else (some false))) else (some false)) else ((some (a0_0 == 13)).bind fun t142 => (if t142 = true then (if x4_1 = true then ((some (a0_1 == 0)).bind fun t143 => (some t143)) else (some false)) else ((some (a0_0 == 15)).bind fun t144 => (if t144 = true then (if x4_1 = true then ((some (a0_1 == 0)).bind fun t145 => (some t145)) else (some false)) else (some false)))))))) = some r := H
                                  replace hnbt137 : (a0_0 == 14) = t137 := Option.some.inj hnbt137
                                  by_cases c70 : t137 = true
                                  · subst c70
                                    have H1 : (if x4_1 = true then ((spec_l01In.f a0_1 0 7).bind fun t138 => (some t138)) else (some false)) = some r := by rw [if_pos rfl] at H; exact H
                                    clear H
                                    have H := H1
                                    clear H1
                                    by_cases c71 : x4_1 = true
                                    · subst c71
                                      have H1 : ((spec_l01In.f a0_1 0 7).bind fun t138 => (some t138)) = some r := by rw [if_pos rfl] at H; exact H
                                      clear H
                                      have H := H1
                                      clear H1
                                      replace H := Option.bind_eq_some_iff.mp H
                                      obtain ⟨t138, A720, H⟩ := H
                                      replace H : (some t138) = some r := H
                                      have A72 := Aside0.mk A720
                                      clear A720
                                      obtain rfl := Option.some.inj H
                                      have hcz73_0 : wc.cell? ⟨gb106, 0, none⟩ = some (.int .i64 a0_0) := (blk_cell BK106.out 0).trans rfl
                                      have hcz73_1 : wc.cell? ⟨gb106, 1, none⟩ = some (.int .i64 a0_1) := (blk_cell BK106.out 1).trans rfl
                                      have hcz73_2 : wc.cell? ⟨gb106, 2, none⟩ = some (.int .i64 a0_2) := (blk_cell BK106.out 2).trans rfl
                                      have hcz73_3 : wc.cell? ⟨gb106, 3, none⟩ = some (.int .i64 a0_3) := (blk_cell BK106.out 3).trans rfl
                                      have hfz73_0 := blk_frozen BK106.out 0
                                      have hfz73_1 := blk_frozen BK106.out 1
                                      have hfz73_2 := blk_frozen BK106.out 2
                                      have hfz73_3 := blk_frozen BK106.out 3
                                      go_wp2_with (first | (go_at_call 47; (with_reducible refine (spec_l01In.calls a0_1 0 7 t138 _ A72.out).mono ?_); rintro e w' ⟨rfl, ⟨nd, rfl⟩⟩))
                                      go_ret
                                      exact ⟨by first | rfl | (simp [errW_none, errW_some] <;> rfl) | (simp [*, errW_none, errW_some] <;> rfl), by repeat (first | (with_reducible first | exact HB.out | apply below_alloc | apply pw_below_drewN | apply below_drew1 | refine below_set ?_ GE106.out) | exact HB.out)⟩
                                    · replace c71 := Bool.eq_false_iff.mpr c71
                                      subst c71
                                      have H1 : (some false) = some r := by rw [if_neg (show ¬ (false = true) by decide)] at H; exact H
                                      clear H
                                      have H := H1
                                      clear H1
                                      obtain rfl := Option.some.inj H
                                      go_wp2
                                      go_ret
                                      exact ⟨by first | rfl | (simp [errW_none, errW_some] <;> rfl) | (simp [*, errW_none, errW_some] <;> rfl), by repeat (first | (with_reducible first | exact HB.out | apply below_alloc | apply pw_below_drewN | apply below_drew1 | refine below_set ?_ GE106.out) | exact HB.out)⟩
                                  · replace c70 := Bool.eq_false_iff.mpr c70
                                    subst c70
                                    have H1 : ((some (a0_0 == 17)).bind fun t139 => (if t139 = true then (if t107 = true then ((spec_l14Reg.f a0_1).bind fun t140 => (if t140 = true then ((spec_l14Label.f a0_2).bind fun t141 => (some t141)) else (some false))) else (some false)) else ((some (a0_0 == 13)).bind fun t142 => (if t142 = true then (if x4_1 = true then ((some (a0_1 == 0)).bind fun t143 => (some t143)) else (some false)) else ((some (a0_0 == 15)).bind fun t144 => (if t144 = true then (if x4_1 = true then ((some (a0_1 == 0)).bind fun t145 => (some t145)) else (some false)) else (some false))))))) = some r := by rw [if_neg (show ¬ (false = true) by decide)] at H; exact H
                                    clear H
                                    have H := H1
                                    clear H1
                                    replace H := Option.bind_eq_some_iff.mp H
                                    obtain ⟨t139, hnbt139, H⟩ := H
                                    replace H : (if t139 = true then (if t107 = true then ((spec_l14Reg.f a0_1).bind fun t140 => (if t140 = true then ((spec_l14Label.f a0_2).bind fun t141 => (some t141)) else (some false))) else (some false)) else ((some (a0_0 == 13)).bind fun t142 => (if t142 = true then (if x4_1 = true then ((some (a0_1 == 0)).bind fun t143 => (some t143)) else (some false)) else ((some (a0_0 == 15)).bind fun t144 => (if t144 = true then (if x4_1 = true then ((some (a0_1 == 0)).bind fun t145 => (some t145)) else (some false)) else (some false)))))) = some r := H
                                    replace hnbt139 : (a0_0 == 17) = t139 := Option.some.inj hnbt139
                                    by_cases c74 : t139 = true
                                    · subst c74
                                      have H1 : (if t107 = true then ((spec_l14Reg.f a0_1).bind fun t140 => (if t140 = true then ((spec_l14Label.f a0_2).bind fun t141 => (some t141)) else (some false))) else (some false)) = some r := by rw [if_pos rfl] at H; exact H
                                      clear H
                                      have H := H1
                                      clear H1
                                      by_cases c75 : t107 = true
                                      · subst c75
                                        have H1 : ((spec_l14Reg.f a0_1).bind fun t140 => (if t140 = true then ((spec_l14Label.f a0_2).bind fun t141 => (some t141)) else (some false))) = some r := by rw [if_pos rfl] at H; exact H
                                        clear H
                                        have H := H1
                                        clear H1
                                        replace H := Option.bind_eq_some_iff.mp H
                                        obtain ⟨t140, A760, H⟩ := H
                                        replace H : (if t140 = true then ((spec_l14Label.f a0_2).bind fun t141 => (some t141)) else (some false)) = some r := H
                                        have A76 := Aside0.mk A760
                                        clear A760
                                        by_cases c77 : t140 = true
                                        · subst c77
                                          have H1 : ((spec_l14Label.f a0_2).bind fun t141 => (some t141)) = some r := by rw [if_pos rfl] at H; exact H
                                          clear H
                                          have H := H1
                                          clear H1
                                          replace H := Option.bind_eq_some_iff.mp H
                                          obtain ⟨t141, A780, H⟩ := H
                                          replace H : (some t141) = some r := H
                                          have A78 := Aside0.mk A780
                                          clear A780
                                          obtain rfl := Option.some.inj H
                                          have hcz79_0 : wc.cell? ⟨gb106, 0, none⟩ = some (.int .i64 a0_0) := (blk_cell BK106.out 0).trans rfl
                                          have hcz79_1 : wc.cell? ⟨gb106, 1, none⟩ = some (.int .i64 a0_1) := (blk_cell BK106.out 1).trans rfl
                                          have hcz79_2 : wc.cell? ⟨gb106, 2, none⟩ = some (.int .i64 a0_2) := (blk_cell BK106.out 2).trans rfl
                                          have hcz79_3 : wc.cell? ⟨gb106, 3, none⟩ = some (.int .i64 a0_3) := (blk_cell BK106.out 3).trans rfl
                                          have hfz79_0 := blk_frozen BK106.out 0
                                          have hfz79_1 := blk_frozen BK106.out 1
                                          have hfz79_2 := blk_frozen BK106.out 2
                                          have hfz79_3 := blk_frozen BK106.out 3
                                          go_wp2_with (first | (go_at_call 56; (with_reducible refine (spec_l14Reg.calls a0_1 true _ A76.out).mono ?_); rintro e w' ⟨rfl, ⟨nd, rfl⟩⟩) | (go_at_call 55; (with_reducible refine (spec_l14Label.calls a0_2 t141 _ A78.out).mono ?_); rintro e w' ⟨rfl, ⟨nd, rfl⟩⟩))
                                          go_ret
                                          exact ⟨by first | rfl | (simp [errW_none, errW_some] <;> rfl) | (simp [*, errW_none, errW_some] <;> rfl), by repeat (first | (with_reducible first | exact HB.out | apply below_alloc | apply pw_below_drewN | apply below_drew1 | refine below_set ?_ GE106.out) | exact HB.out)⟩
                                        · replace c77 := Bool.eq_false_iff.mpr c77
                                          subst c77
                                          have H1 : (some false) = some r := by rw [if_neg (show ¬ (false = true) by decide)] at H; exact H
                                          clear H
                                          have H := H1
                                          clear H1
                                          obtain rfl := Option.some.inj H
                                          have hcz80_0 : wc.cell? ⟨gb106, 0, none⟩ = some (.int .i64 a0_0) := (blk_cell BK106.out 0).trans rfl
                                          have hcz80_1 : wc.cell? ⟨gb106, 1, none⟩ = some (.int .i64 a0_1) := (blk_cell BK106.out 1).trans rfl
                                          have hcz80_2 : wc.cell? ⟨gb106, 2, none⟩ = some (.int .i64 a0_2) := (blk_cell BK106.out 2).trans rfl
                                          have hcz80_3 : wc.cell? ⟨gb106, 3, none⟩ = some (.int .i64 a0_3) := (blk_cell BK106.out 3).trans rfl
                                          have hfz80_0 := blk_frozen BK106.out 0
                                          have hfz80_1 := blk_frozen BK106.out 1
                                          have hfz80_2 := blk_frozen BK106.out 2
                                          have hfz80_3 := blk_frozen BK106.out 3
                                          go_wp2_with (first | (go_at_call 56; (with_reducible refine (spec_l14Reg.calls a0_1 false _ A76.out).mono ?_); rintro e w' ⟨rfl, ⟨nd, rfl⟩⟩))
                                          go_ret
                                          exact ⟨by first | rfl | (simp [errW_none, errW_some] <;> rfl) | (simp [*, errW_none, errW_some] <;> rfl), by repeat (first | (with_reducible first | exact HB.out | apply below_alloc | apply pw_below_drewN | apply below_drew1 | refine below_set ?_ GE106.out) | exact HB.out)⟩
                                      · replace c75 := Bool.eq_false_iff.mpr c75
                                        subst c75
                                        have H1 : (some false) = some r := by rw [if_neg (show ¬ (false = true) by decide)] at H; exact H
                                        clear H
                                        have H := H1
                                        clear H1
                                        obtain rfl := Option.some.inj H
                                        go_wp2
                                        go_ret
                                        exact ⟨by first | rfl | (simp [errW_none, errW_some] <;> rfl) | (simp [*, errW_none, errW_some] <;> rfl), by repeat (first | (with_reducible first | exact HB.out | apply below_alloc | apply pw_below_drewN | apply below_drew1 | refine below_set ?_ GE106.out) | exact HB.out)⟩
                                    · replace c74 := Bool.eq_false_iff.mpr c74
                                      subst c74
                                      have H1 : ((some (a0_0 == 13)).bind fun t142 => (if t142 = true then (if x4_1 = true then ((some (a0_1 == 0)).bind fun t143 => (some t143)) else (some false)) else ((some (a0_0 == 15)).bind fun t144 => (if t144 = true then (if x4_1 = true then ((some (a0_1 == 0)).bind fun t145 => (some t145)) else (some false)) else (some false))))) = some r := by rw [if_neg (show ¬ (false = true) by decide)] at H; exact H
                                      clear H
                                      have H := H1
                                      clear H1
                                      replace H := Option.bind_eq_some_iff.mp H
                                      obtain ⟨t142, hnbt142, H⟩ := H
                                      replace H : (if t142 = true then (if x4_1 = true then ((some (a0_1 == 0)).bind fun t143 => (some t143)) else (some false)) else ((some (a0_0 == 15)).bind fun t144 => (if t144 = true then (if x4_1 = true then ((some (a0_1 == 0)).bind fun t145 => (some t145)) else (some false)) else (some false)))) = some r := H
                                      replace hnbt142 : (a0_0 == 13) = t142 := Option.some.inj hnbt142
                                      by_cases c81 : t142 = true
                                      · subst c81
                                        have H1 : (if x4_1 = true then ((some (a0_1 == 0)).bind fun t143 => (some t143)) else (some false)) = some r := by rw [if_pos rfl] at H; exact H
                                        clear H
                                        have H := H1
                                        clear H1
                                        by_cases c82 : x4_1 = true
                                        · subst c82
                                          have H1 : ((some (a0_1 == 0)).bind fun t143 => (some t143)) = some r := by rw [if_pos rfl] at H; exact H
                                          clear H
                                          have H := H1
                                          clear H1
                                          replace H := Option.bind_eq_some_iff.mp H
                                          obtain ⟨t143, hnbt143, H⟩ := H
                                          replace H : (some t143) = some r := H
                                          replace hnbt143 : (a0_1 == 0) = t143 := Option.some.inj hnbt143
                                          obtain rfl := Option.some.inj H
                                          have hcz83_0 : wc.cell? ⟨gb106, 0, none⟩ = some (.int .i64 a0_0) := (blk_cell BK106.out 0).trans rfl
                                          have hcz83_1 : wc.cell? ⟨gb106, 1, none⟩ = some (.int .i64 a0_1) := (blk_cell BK106.out 1).trans rfl
                                          have hcz83_2 : wc.cell? ⟨gb106, 2, none⟩ = some (.int .i64 a0_2) := (blk_cell BK106.out 2).trans rfl
                                          have hcz83_3 : wc.cell? ⟨gb106, 3, none⟩ = some (.int .i64 a0_3) := (blk_cell BK106.out 3).trans rfl
                                          have hfz83_0 := blk_frozen BK106.out 0
                                          have hfz83_1 := blk_frozen BK106.out 1
                                          have hfz83_2 := blk_frozen BK106.out 2
                                          have hfz83_3 := blk_frozen BK106.out 3
                                          go_wp2
                                          go_ret
                                          exact ⟨by first | rfl | (simp [errW_none, errW_some] <;> rfl) | (simp [*, errW_none, errW_some] <;> rfl), by repeat (first | (with_reducible first | exact HB.out | apply below_alloc | apply pw_below_drewN | apply below_drew1 | refine below_set ?_ GE106.out) | exact HB.out)⟩
                                        · replace c82 := Bool.eq_false_iff.mpr c82
                                          subst c82
                                          have H1 : (some false) = some r := by rw [if_neg (show ¬ (false = true) by decide)] at H; exact H
                                          clear H
                                          have H := H1
                                          clear H1
                                          obtain rfl := Option.some.inj H
                                          go_wp2
                                          go_ret
                                          exact ⟨by first | rfl | (simp [errW_none, errW_some] <;> rfl) | (simp [*, errW_none, errW_some] <;> rfl), by repeat (first | (with_reducible first | exact HB.out | apply below_alloc | apply pw_below_drewN | apply below_drew1 | refine below_set ?_ GE106.out) | exact HB.out)⟩
                                      · replace c81 := Bool.eq_false_iff.mpr c81
                                        subst c81
                                        have H1 : ((some (a0_0 == 15)).bind fun t144 => (if t144 = true then (if x4_1 = true then ((some (a0_1 == 0)).bind fun t145 => (some t145)) else (some false)) else (some false))) = some r := by rw [if_neg (show ¬ (false = true) by decide)] at H; exact H
                                        clear H
                                        have H := H1
                                        clear H1
                                        replace H := Option.bind_eq_some_iff.mp H
                                        obtain ⟨t144, hnbt144, H⟩ := H
                                        replace H : (if t144 = true then (if x4_1 = true then ((some (a0_1 == 0)).bind fun t145 => (some t145)) else (some false)) else (some false)) = some r := H
                                        replace hnbt144 : (a0_0 == 15) = t144 := Option.some.inj hnbt144
                                        by_cases c84 : t144 = true
                                        · subst c84
                                          have H1 : (if x4_1 = true then ((some (a0_1 == 0)).bind fun t145 => (some t145)) else (some false)) = some r := by rw [if_pos rfl] at H; exact H
                                          clear H
                                          have H := H1
                                          clear H1
                                          by_cases c85 : x4_1 = true
                                          · subst c85
                                            have H1 : ((some (a0_1 == 0)).bind fun t145 => (some t145)) = some r := by rw [if_pos rfl] at H; exact H
                                            clear H
                                            have H := H1
                                            clear H1
                                            replace H := Option.bind_eq_some_iff.mp H
                                            obtain ⟨t145, hnbt145, H⟩ := H
                                            replace H : (some t145) = some r := H
                                            replace hnbt145 : (a0_1 == 0) = t145 := Option.some.inj hnbt145
                                            obtain rfl := Option.some.inj H
                                            have hcz86_0 : wc.cell? ⟨gb106, 0, none⟩ = some (.int .i64 a0_0) := (blk_cell BK106.out 0).trans rfl
                                            have hcz86_1 : wc.cell? ⟨gb106, 1, none⟩ = some (.int .i64 a0_1) := (blk_cell BK106.out 1).trans rfl
                                            have hcz86_2 : wc.cell? ⟨gb106, 2, none⟩ = some (.int .i64 a0_2) := (blk_cell BK106.out 2).trans rfl
                                            have hcz86_3 : wc.cell? ⟨gb106, 3, none⟩ = some (.int .i64 a0_3) := (blk_cell BK106.out 3).trans rfl
                                            have hfz86_0 := blk_frozen BK106.out 0
                                            have hfz86_1 := blk_frozen BK106.out 1
                                            have hfz86_2 := blk_frozen BK106.out 2
                                            have hfz86_3 := blk_frozen BK106.out 3
                                            go_wp2
                                            go_ret
                                            exact ⟨by first | rfl | (simp [errW_none, errW_some] <;> rfl) | (simp [*, errW_none, errW_some] <;> rfl), by repeat (first | (with_reducible first | exact HB.out | apply below_alloc | apply pw_below_drewN | apply below_drew1 | refine below_set ?_ GE106.out) | exact HB.out)⟩
                                          · replace c85 := Bool.eq_false_iff.mpr c85
                                            subst c85
                                            have H1 : (some false) = some r := by rw [if_neg (show ¬ (false = true) by decide)] at H; exact H
                                            clear H
                                            have H := H1
                                            clear H1
                                            obtain rfl := Option.some.inj H
                                            go_wp2
                                            go_ret
                                            exact ⟨by first | rfl | (simp [errW_none, errW_some] <;> rfl) | (simp [*, errW_none, errW_some] <;> rfl), by repeat (first | (with_reducible first | exact HB.out | apply below_alloc | apply pw_below_drewN | apply below_drew1 | refine below_set ?_ GE106.out) | exact HB.out)⟩
                                        · replace c84 := Bool.eq_false_iff.mpr c84
                                          subst c84
                                          have H1 : (some false) = some r := by rw [if_neg (show ¬ (false = true) by decide)] at H; exact H
                                          clear H
                                          have H := H1
                                          clear H1
                                          obtain rfl := Option.some.inj H
                                          go_wp2
                                          go_ret
                                          exact ⟨by first | rfl | (simp [errW_none, errW_some] <;> rfl) | (simp [*, errW_none, errW_some] <;> rfl), by repeat (first | (with_reducible first | exact HB.out | apply below_alloc | apply pw_below_drewN | apply below_drew1 | refine below_set ?_ GE106.out) | exact HB.out)⟩

end Go.Proofs.Ytoohimpbckpiaaa.PFnExactStmtOK
