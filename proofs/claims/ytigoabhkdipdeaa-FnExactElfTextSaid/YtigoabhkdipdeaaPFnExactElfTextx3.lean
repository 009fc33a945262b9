/- Laid by a program of this session (patch_print.py) out of the translation: plain functions and what the calls do. No condition. -/
import Derived.Test.YtigoabhkdipdeaaPFnExactElfTextx0
import Derived.Test.YtigoabhkdipdeaaPFnExactElfTextx2
namespace Go.Proofs.Ytigoabhkdipdeaa.PFnExactElfText
open Go.RowKit Go.Proofs.YtigoabhkdipdeaaW.PrintWords Go.Proofs.YtigoabhkdipdeaaW.PrintLast Go.Proofs.YtigoabhkdipdeaaW.PrintMore
attribute [local go_sem] max2_int min2_int max_two min_two max_three min_three max_four min_four   -- for this text's walks alone
set_option linter.unusedVariables false
set_option linter.unusedSimpArgs false

/-! ### spec_l10Segments: function 185 -/
mutual
def spec_l10Segments.l0 : Nat → Int → Int → Int → Int → List (S111) → Option (Int × Int)
  | 0, _, _, _, _, _ => none
  | k + 1, x4, x5, x6, x133000, x133001 => if x6 < (x133001.length : Int) then (if 0 ≤ x6 then (if ((rd_T111 x133001 x6).f0) = 4 then (spec_l10Segments.j1 k x4 x5 x6 false x133000 x133001 ((rd_T111 x133001 x6).f0) ((rd_T111 x133001 x6).f1) ((rd_T111 x133001 x6).f2) ((rd_T111 x133001 x6).f3)) else (if ((rd_T111 x133001 x6).f0) = 5 then (spec_l10Segments.j1 k x4 x5 x6 false x133000 x133001 ((rd_T111 x133001 x6).f0) ((rd_T111 x133001 x6).f1) ((rd_T111 x133001 x6).f2) ((rd_T111 x133001 x6).f3)) else (spec_l10Segments.j1 k x4 x5 x6 (((rd_T111 x133001 x6).f0) != 6) x133000 x133001 ((rd_T111 x133001 x6).f0) ((rd_T111 x133001 x6).f1) ((rd_T111 x133001 x6).f2) ((rd_T111 x133001 x6).f3)))) else (none)) else (if x5 = 0 then (some (0, 28)) else (some (0, 0)))
def spec_l10Segments.j1 : Nat → Int → Int → Int → Bool → Int → List (S111) → Int → Int → Int → ByteArray → Option (Int × Int)
  | 0, _, _, _, _, _, _, _, _, _, _ => none
  | k + 1, x4, x5, x6, x32, x133000, x133001, x135000, x135001, x135002, x135003 => if x32 = true then (some (x6, 14)) else (if (Int.tmod x135001 256) = 0 then ((spec_l01In.f x135001 x4 3583).bind fun t135 => (if t135 = true then ((spec_l01In.f x135002 1 (wrap64 (3584 - x135001))).bind fun t136 => (if t136 = true then (spec_l10Segments.j2 k x5 x6 (decide ((x135003.size : Int) > x135002)) x133000 x133001 x135000 x135001 x135002 x135003) else (spec_l10Segments.j2 k x5 x6 true x133000 x133001 x135000 x135001 x135002 x135003))) else (spec_l10Segments.j2 k x5 x6 true x133000 x133001 x135000 x135001 x135002 x135003))) else (spec_l10Segments.j2 k x5 x6 true x133000 x133001 x135000 x135001 x135002 x135003))
def spec_l10Segments.j2 : Nat → Int → Int → Bool → Int → List (S111) → Int → Int → Int → ByteArray → Option (Int × Int)
  | 0, _, _, _, _, _, _, _, _, _ => none
  | k + 1, x5, x6, x61, x133000, x133001, x135000, x135001, x135002, x135003 => if x61 = true then (some (x6, 31)) else (if x135000 = 5 then (if (wrap64 (x5 + 1)) > 1 then (some (x6, 28)) else (if (x135003.size : Int) = x135002 then (if (Int.tmod x135002 32) = 0 then (spec_l10Segments.j3 k (wrap64 (x5 + 1)) x6 x133000 x133001 x135000 x135001 x135002 x135003) else (some (x6, 28))) else (some (x6, 28)))) else (spec_l10Segments.j3 k x5 x6 x133000 x133001 x135000 x135001 x135002 x135003))
def spec_l10Segments.j3 : Nat → Int → Int → Int → List (S111) → Int → Int → Int → ByteArray → Option (Int × Int)
  | 0, _, _, _, _, _, _, _, _ => none
  | k + 1, x5, x6, x133000, x133001, x135000, x135001, x135002, x135003 => spec_l10Segments.l1 k (wrap64 (x135001 + x135002)) x5 x6 x133000 x133001
def spec_l10Segments.l1 : Nat → Int → Int → Int → Int → List (S111) → Option (Int × Int)
  | 0, _, _, _, _, _ => none
  | k + 1, x4, x5, x6, x133000, x133001 => if (Int.tmod x4 256) = 0 then (spec_l10Segments.l0 k x4 x5 (wrap64 (x6 + 1)) x133000 x133001) else (spec_l10Segments.l1 k (wrap64 (x4 + 1)) x5 x6 x133000 x133001)
end
def spec_l10Segments.f (k : Nat) (a0_0 : Int) (l0_1 : List (S111)) : Option (Int × Int) := spec_l10Segments.l0 k 512 0 0 a0_0 l0_1
theorem spec_l10Segments.mono_l : ∀ k, (∀ y0 y1 y2 y3 y4, LeO (spec_l10Segments.l0 k y0 y1 y2 y3 y4) (spec_l10Segments.l0 (k + 1) y0 y1 y2 y3 y4)) ∧ (∀ y0 y1 y2 y3 y4 y5 y6 y7 y8 y9, LeO (spec_l10Segments.j1 k y0 y1 y2 y3 y4 y5 y6 y7 y8 y9) (spec_l10Segments.j1 (k + 1) y0 y1 y2 y3 y4 y5 y6 y7 y8 y9)) ∧ (∀ y0 y1 y2 y3 y4 y5 y6 y7 y8, LeO (spec_l10Segments.j2 k y0 y1 y2 y3 y4 y5 y6 y7 y8) (spec_l10Segments.j2 (k + 1) y0 y1 y2 y3 y4 y5 y6 y7 y8)) ∧ (∀ y0 y1 y2 y3 y4 y5 y6 y7, LeO (spec_l10Segments.j3 k y0 y1 y2 y3 y4 y5 y6 y7) (spec_l10Segments.j3 (k + 1) y0 y1 y2 y3 y4 y5 y6 y7)) ∧ (∀ y0 y1 y2 y3 y4, LeO (spec_l10Segments.l1 k y0 y1 y2 y3 y4) (spec_l10Segments.l1 (k + 1) y0 y1 y2 y3 y4))
  | 0 => ⟨fun _ _ _ _ _ r h => by simp [spec_l10Segments.l0] at h, fun _ _ _ _ _ _ _ _ _ _ r h => by simp [spec_l10Segments.j1] at h, fun _ _ _ _ _ _ _ _ _ r h => by simp [spec_l10Segments.j2] at h, fun _ _ _ _ _ _ _ _ r h => by simp [spec_l10Segments.j3] at h, fun _ _ _ _ _ r h => by simp [spec_l10Segments.l1] at h⟩
  | k + 1 => by
    obtain ⟨ih0, ih1, ih2, ih3, ih4⟩ := spec_l10Segments.mono_l k
    refine ⟨?_, ?_, ?_, ?_, ?_⟩
    · intro y0 y1 y2 y3 y4
      unfold spec_l10Segments.l0
      repeat' first
      | (with_reducible exact ih0 _ _ _ _ _)
      | (with_reducible exact ih1 _ _ _ _ _ _ _ _ _ _)
      | (with_reducible exact ih2 _ _ _ _ _ _ _ _ _)
      | (with_reducible exact ih3 _ _ _ _ _ _ _ _)
      | (with_reducible exact ih4 _ _ _ _ _)
      | (with_reducible exact LeO.refl _)
      | (with_reducible exact LeO.none _)
      | (with_reducible refine LeO.ite ?_ ?_)
      | (with_reducible refine LeO.bind ?_ (fun _ => ?_))
      | exact ih0 _ _ _ _ _
      | exact ih1 _ _ _ _ _ _ _ _ _ _
      | exact ih2 _ _ _ _ _ _ _ _ _
      | exact ih3 _ _ _ _ _ _ _ _
      | exact ih4 _ _ _ _ _
      | exact LeO.none _
      | refine LeO.ite ?_ ?_
      | refine LeO.bind ?_ (fun _ => ?_)
    · intro y0 y1 y2 y3 y4 y5 y6 y7 y8 y9
      unfold spec_l10Segments.j1
      repeat' first
      | (with_reducible exact ih0 _ _ _ _ _)
      | (with_reducible exact ih1 _ _ _ _ _ _ _ _ _ _)
      | (with_reducible exact ih2 _ _ _ _ _ _ _ _ _)
      | (with_reducible exact ih3 _ _ _ _ _ _ _ _)
      | (with_reducible exact ih4 _ _ _ _ _)
      | (with_reducible exact LeO.refl _)
      | (with_reducible exact LeO.none _)
      | (with_reducible refine LeO.ite ?_ ?_)
      | (with_reducible refine LeO.bind ?_ (fun _ => ?_))
      | exact ih0 _ _ _ _ _
      | exact ih1 _ _ _ _ _ _ _ _ _ _
      | exact ih2 _ _ _ _ _ _ _ _ _
      | exact ih3 _ _ _ _ _ _ _ _
      | exact ih4 _ _ _ _ _
      | exact LeO.none _
      | refine LeO.ite ?_ ?_
      | refine LeO.bind ?_ (fun _ => ?_)
    · intro y0 y1 y2 y3 y4 y5 y6 y7 y8
      unfold spec_l10Segments.j2
      repeat' first
      | (with_reducible exact ih0 _ _ _ _ _)
      | (with_reducible exact ih1 _ _ _ _ _ _ _ _ _ _)
      | (with_reducible exact ih2 _ _ _ _ _ _ _ _ _)
      | (with_reducible exact ih3 _ _ _ _ _ _ _ _)
      | (with_reducible exact ih4 _ _ _ _ _)
      | (with_reducible exact LeO.refl _)
      | (with_reducible exact LeO.none _)
      | (with_reducible refine LeO.ite ?_ ?_)
      | (with_reducible refine LeO.bind ?_ (fun _ => ?_))
      | exact ih0 _ _ _ _ _
      | exact ih1 _ _ _ _ _ _ _ _ _ _
      | exact ih2 _ _ _ _ _ _ _ _ _
      | exact ih3 _ _ _ _ _ _ _ _
      | exact ih4 _ _ _ _ _
      | exact LeO.none _
      | refine LeO.ite ?_ ?_
      | refine LeO.bind ?_ (fun _ => ?_)
    · intro y0 y1 y2 y3 y4 y5 y6 y7
      unfold spec_l10Segments.j3
      repeat' first
      | (with_reducible exact ih0 _ _ _ _ _)
      | (with_reducible exact ih1 _ _ _ _ _ _ _ _ _ _)
      | (with_reducible exact ih2 _ _ _ _ _ _ _ _ _)
      | (with_reducible exact ih3 _ _ _ _ _ _ _ _)
      | (with_reducible exact ih4 _ _ _ _ _)
      | (with_reducible exact LeO.refl _)
      | (with_reducible exact LeO.none _)
      | (with_reducible refine LeO.ite ?_ ?_)
      | (with_reducible refine LeO.bind ?_ (fun _ => ?_))
      | exact ih0 _ _ _ _ _
      | exact ih1 _ _ _ _ _ _ _ _ _ _
      | exact ih2 _ _ _ _ _ _ _ _ _
      | exact ih3 _ _ _ _ _ _ _ _
      | exact ih4 _ _ _ _ _
      | exact LeO.none _
      | refine LeO.ite ?_ ?_
      | refine LeO.bind ?_ (fun _ => ?_)
    · intro y0 y1 y2 y3 y4
      unfold spec_l10Segments.l1
      repeat' first
      | (with_reducible exact ih0 _ _ _ _ _)
      | (with_reducible exact ih1 _ _ _ _ _ _ _ _ _ _)
      | (with_reducible exact ih2 _ _ _ _ _ _ _ _ _)
      | (with_reducible exact ih3 _ _ _ _ _ _ _ _)
      | (with_reducible exact ih4 _ _ _ _ _)
      | (with_reducible exact LeO.refl _)
      | (with_reducible exact LeO.none _)
      | (with_reducible refine LeO.ite ?_ ?_)
      | (with_reducible refine LeO.bind ?_ (fun _ => ?_))
      | exact ih0 _ _ _ _ _
      | exact ih1 _ _ _ _ _ _ _ _ _ _
      | exact ih2 _ _ _ _ _ _ _ _ _
      | exact ih3 _ _ _ _ _ _ _ _
      | exact ih4 _ _ _ _ _
      | exact LeO.none _
      | refine LeO.ite ?_ ?_
      | refine LeO.bind ?_ (fun _ => ?_)
theorem spec_l10Segments.mono : ∀ a0 a1 k, LeO (spec_l10Segments.f k a0 a1) (spec_l10Segments.f (k + 1) a0 a1) := by
  intro a0 a1 k
  obtain ⟨ih0, ih1, ih2, ih3, ih4⟩ := spec_l10Segments.mono_l k
  unfold spec_l10Segments.f
  repeat' first
      | (with_reducible exact ih0 _ _ _ _ _)
      | (with_reducible exact ih1 _ _ _ _ _ _ _ _ _ _)
      | (with_reducible exact ih2 _ _ _ _ _ _ _ _ _)
      | (with_reducible exact ih3 _ _ _ _ _ _ _ _)
      | (with_reducible exact ih4 _ _ _ _ _)
      | (with_reducible exact LeO.refl _)
      | (with_reducible exact LeO.none _)
      | (with_reducible refine LeO.ite ?_ ?_)
      | (with_reducible refine LeO.bind ?_ (fun _ => ?_))
      | exact ih0 _ _ _ _ _
      | exact ih1 _ _ _ _ _ _ _ _ _ _
      | exact ih2 _ _ _ _ _ _ _ _ _
      | exact ih3 _ _ _ _ _ _ _ _
      | exact ih4 _ _ _ _ _
      | exact LeO.none _
      | refine LeO.ite ?_ ?_
      | refine LeO.bind ?_ (fun _ => ?_)
set_option maxHeartbeats 8000000 in
set_option maxRecDepth 100000 in
theorem spec_l10Segments.calls (k : Nat) (a0_0 : Int) (A0_1 : Option Addr) (c0_1 : Nat) (l0_1 : List (S111)) (r1 : Int) (r2 : Int) (w : World) (hr0_1 : Kd.C k111 w A0_1 l0_1.length l0_1) (hc0_1 : l0_1.length ≤ c0_1) (h : spec_l10Segments.f k a0_0 l0_1 = some (r1, r2)) :
    Calls Try.prog 185 #[.agg #[.int .i64 a0_0, .slice A0_1 l0_1.length c0_1]] w fun e w' => e = .returned (.tuple #[.int .i64 r1, .int .i64 r2]) ∧ Below w.heap.size w w' := by
  have hu29 := Try.underlying29
  have hu111 := Try.underlying111
  have HR0_1 := Aside0.mk hr0_1
  have HC0_1 := Aside0.mk hc0_1
  clear hr0_1 hc0_1
  have HB := Aside0.mk (Below.refl w.heap.size w)
  have H : (spec_l10Segments.l0 k 512 0 0 a0_0 l0_1) = some (r1, r2) := h
  clear h
  have H' := Aside0.mk H
  clear H
  go_enter Try.func185, Try.ntmps185
  go_wp2_with (first | ((with_reducible refine gate_dst (N := 1) rfl ?_); (try (refine gate_guard (by rfl) ?_; dsimp only)); refine box_event ?hg (N := 1) ?hd (cs := #[.int .i64 a0_0, .slice A0_1 l0_1.length c0_1]) (t := 29) ?hr ?_; (case hd => rfl); (case hg => rfl); (case hr => first | (go_simp; done) | (go_simp; rfl)); intro gb132 hg w2 hbox hb; have n0_ := Aside0.mk (below_step by1 hb); have n1_ := Aside0.mk (hbox); have n2_ := Aside0.mk ((by0 : w.heap.size ≤ gb132)); have n3_ := Aside0.mk ((by0 : w.heap.size ≤ gb132)); clear HB; have HB := n0_; have BK132 := n1_; have GW132 := n2_; have GE132 := n3_; clear n0_ n1_ n2_ n3_; clear hb hbox hg))
  go_loopg [4, 5, 6] k (fun kq v4 v5 v6 w' => ∃ (x4_1 : Int) (x5_1 : Int) (x6_1 : Int), v4 = .int .i64 x4_1 ∧ v5 = .int .i64 x5_1 ∧ v6 = .int .i64 x6_1 ∧ Aside0 (spec_l10Segments.l0 kq x4_1 x5_1 x6_1 a0_0 l0_1 = some (r1, r2)) ∧ Aside0 (kq ≤ k) ∧ Aside0 (w'.heap[gb132]? = some (.cells #[.int .i64 a0_0, (.slice A0_1 l0_1.length c0_1)] 29 (0, 0))) ∧ Aside0 (Below w.heap.size w w'))
  case atStart => exact ⟨(512), (0), (0), by9, by9, by9, H', ⟨Nat.le_refl _⟩, ⟨by (with_reducible repeat (first | refine blk_drewN ?_ _ | refine blk_drew ?_ | refine blk_alloc ?_ _)); exact BK132.out⟩, ⟨by repeat (first | (with_reducible first | exact HB.out | apply below_alloc | apply pw_below_drewN | apply below_drew1 | refine below_set ?_ GE132.out) | exact HB.out)⟩⟩
  case round =>
    clear H'
    try clear c1
    try clear p2
    obtain ⟨x4_1, x5_1, x6_1, rfl, rfl, rfl, HA, HK1, BK132, HB⟩ := hrel
    cases gk with
    | zero => exact absurd HA.out (by simp [spec_l10Segments.l0])
    | succ k1 =>
      have H := HA.out
      clear HA
      simp only [spec_l10Segments.l0] at H
      by_cases c3 : x6_1 < (l0_1.length : Int)
      · rw [if_pos c3] at H
        have c3b0 : decide (x6_1 < (l0_1.length : Int)) = true := decide_eq_true c3
        clear c3
        by_cases c4 : 0 ≤ x6_1
        · rw [if_pos c4] at H
          have c4b0 : decide (0 ≤ x6_1) = true := decide_eq_true c4
          clear c4
          have HC5 := Aside0.mk H
          clear H
          have hcz6_0 : wr.cell? ⟨gb132, 0, none⟩ = some (.int .i64 a0_0) := (blk_cell BK132.out 0).trans rfl
          have hcz6_1 : wr.cell? ⟨gb132, 1, none⟩ = some (.slice A0_1 l0_1.length c0_1) := (blk_cell BK132.out 1).trans rfl
          have hfz6_0 := blk_frozen BK132.out 0
          have hfz6_1 := blk_frozen BK132.out 1
          have p133 : 0 ≤ (x6_1 : Int) := of_decide_eq_true by8
          have q133 : x6_1 < (l0_1.length : Int) := of_decide_eq_true by8
          obtain ⟨ad133, e133, hx133_0, hx133_1, hx133_2, hx133_3⟩ := at_T111 HR0_1.out x6_1 p133 q133
          cases e133
          replace hx133_0 := (HB.out.cell (World.block_lt_of_cell? w _ hx133_0)).trans hx133_0
          replace hx133_1 := (HB.out.cell (World.block_lt_of_cell? w _ hx133_1)).trans hx133_1
          replace hx133_2 := (HB.out.cell (World.block_lt_of_cell? w _ hx133_2)).trans hx133_2
          replace hx133_3 := (HB.out.cell (World.block_lt_of_cell? w _ hx133_3)).trans hx133_3
          replace p133 := eq_true p133
          replace q133 := eq_true q133
          go_upto_region 7 with (first | ((with_reducible refine gate_dst (N := 7) rfl ?_); (try (refine gate_guard (by rfl) ?_; dsimp only)); refine box_event ?hg (N := 7) ?hd (cs := #[.int .i64 0, .int .i64 0, .int .i64 0, .string (⟨#[]⟩ : ByteArray)]) (t := 111) ?hr ?_; (case hd => rfl); (case hg => rfl); (case hr => first | (go_simp; done) | (go_simp; rfl)); intro gb134 hg w7 hbox hb; have n0_ := Aside0.mk (blk_below (g := gb132) (o := .cells #[.int .i64 a0_0, .slice (some ad133) l0_1.length c0_1] 29 (0, 0)) (by (with_reducible repeat (first | refine blk_drewN ?_ _ | refine blk_drew ?_ | refine blk_alloc ?_ _)); exact BK132.out) hb); have n1_ := Aside0.mk (below_step (by repeat (first | (with_reducible first | exact HB.out | apply below_alloc | apply pw_below_drewN | apply below_drew1 | refine below_set ?_ GE132.out) | exact HB.out)) hb); have n2_ := Aside0.mk (hbox); have n3_ := Aside0.mk ((by64 : w.heap.size ≤ gb134)); have n4_ := Aside0.mk ((by64 : w.heap.size ≤ gb134)); have n5_ := Aside0.mk ((by rw [hg]; exact Nat.ne_of_lt (blk_lt (g := gb132) (o := .cells #[.int .i64 a0_0, .slice (some ad133) l0_1.length c0_1] 29 (0, 0)) (by (with_reducible repeat (first | refine blk_drewN ?_ _ | refine blk_drew ?_ | refine blk_alloc ?_ _)); exact BK132.out)) : gb132 ≠ gb134)); have n6_ := Aside0.mk ((by rw [hg]; exact Nat.ne_of_gt (blk_lt (g := gb132) (o := .cells #[.int .i64 a0_0, .slice (some ad133) l0_1.length c0_1] 29 (0, 0)) (by (with_reducible repeat (first | refine blk_drewN ?_ _ | refine blk_drew ?_ | refine blk_alloc ?_ _)); exact BK132.out)) : gb134 ≠ gb132)); clear BK132; clear HB; have BK132 := n0_; have HB := n1_; have BK134 := n2_; have GW134 := n3_; have GE134 := n4_; have NB132_134 := n5_; have NB134_132 := n6_; clear n0_ n1_ n2_ n3_ n4_ n5_ n6_; clear hb hbox hg; have hnb8 := NB134_132.out; have hnc8 := NB132_134.out; have hcz9_0 : w7.cell? ⟨gb134, 0, none⟩ = some (.int .i64 0) := (blk_cell BK134.out 0).trans rfl; have hcz9_1 : w7.cell? ⟨gb134, 1, none⟩ = some (.int .i64 0) := (blk_cell BK134.out 1).trans rfl; have hcz9_2 : w7.cell? ⟨gb134, 2, none⟩ = some (.int .i64 0) := (blk_cell BK134.out 2).trans rfl; have hcz9_3 : w7.cell? ⟨gb134, 3, none⟩ = some (.string (⟨#[]⟩ : ByteArray)) := (blk_cell BK134.out 3).trans rfl; have hfz9_0 := blk_frozen BK134.out 0; have hfz9_1 := blk_frozen BK134.out 1; have hfz9_2 := blk_frozen BK134.out 2; have hfz9_3 := blk_frozen BK134.out 3))
          (try simp only [Act.put, List.setIfInBounds_toArray, List.set_cons_zero, List.set_cons_succ])
          go_cut [32] (fun v32 wc => ∃ (kq : Nat) (x32_4 : Bool), v32 = .bool x32_4 ∧ Aside0 (spec_l10Segments.j1 kq x4_1 x5_1 x6_1 x32_4 a0_0 l0_1 ((rd_T111 l0_1 x6_1).f0) ((rd_T111 l0_1 x6_1).f1) ((rd_T111 l0_1 x6_1).f2) ((rd_T111 l0_1 x6_1).f3) = some (r1, r2)) ∧ Aside0 (kq ≤ k1) ∧ Aside0 (wc.heap[gb132]? = some (.cells #[.int .i64 a0_0, (.slice (some ad133) l0_1.length c0_1)] 29 (0, 0))) ∧ Aside0 (wc.heap[gb134]? = some (.cells #[.int .i64 ((rd_T111 l0_1 x6_1).f0), .int .i64 ((rd_T111 l0_1 x6_1).f1), .int .i64 ((rd_T111 l0_1 x6_1).f2), .string ((rd_T111 l0_1 x6_1).f3)] 111 (0, 0))) ∧ Aside0 (Below w.heap.size w wc))
          case first =>
            have H := HC5.out
            clear HC5
            by_cases c10 : ((rd_T111 l0_1 x6_1).f0) = 4
            · rw [if_pos c10] at H
              have c10b0 : (((rd_T111 l0_1 x6_1).f0) == 4) = true := beq_iff_eq.mpr c10
              have c10b1 : (((rd_T111 l0_1 x6_1).f0) != 4) = false := bne_eq_false_iff_eq.mpr c10
              clear c10
              (first | rw [c10b0] | (simp only [i64_w, i32_w]; rw [c10b0]) | rw [c10b1] | skip)
              have H' := Aside0.mk H
              clear H
              have hnb11 := NB134_132.out
              have hnc11 := NB132_134.out
              have hcz12_0 : w7.cell? ⟨gb134, 0, none⟩ = some (.int .i64 0) := (blk_cell BK134.out 0).trans rfl
              have hcz12_1 : w7.cell? ⟨gb134, 1, none⟩ = some (.int .i64 0) := (blk_cell BK134.out 1).trans rfl
              have hcz12_2 : w7.cell? ⟨gb134, 2, none⟩ = some (.int .i64 0) := (blk_cell BK134.out 2).trans rfl
              have hcz12_3 : w7.cell? ⟨gb134, 3, none⟩ = some (.string (⟨#[]⟩ : ByteArray)) := (blk_cell BK134.out 3).trans rfl
              have hfz12_0 := blk_frozen BK134.out 0
              have hfz12_1 := blk_frozen BK134.out 1
              have hfz12_2 := blk_frozen BK134.out 2
              have hfz12_3 := blk_frozen BK134.out 3
              go_wp2
              go_meet
              case rel => exact ⟨_, (false), by9, H', ⟨by have := HK1.out; first | omega | exact Nat.le_refl _⟩, ⟨by (with_reducible repeat (first | refine blk_drewN ?_ _ | refine blk_drew ?_ | refine blk_alloc ?_ _)); refine blk_far ?_ NB132_134.out _; (with_reducible repeat (first | refine blk_drewN ?_ _ | refine blk_drew ?_ | refine blk_alloc ?_ _)); refine blk_far ?_ NB132_134.out _; (with_reducible repeat (first | refine blk_drewN ?_ _ | refine blk_drew ?_ | refine blk_alloc ?_ _)); refine blk_far ?_ NB132_134.out _; (with_reducible repeat (first | refine blk_drewN ?_ _ | refine blk_drew ?_ | refine blk_alloc ?_ _)); refine blk_far ?_ NB132_134.out _; (with_reducible repeat (first | refine blk_drewN ?_ _ | refine blk_drew ?_ | refine blk_alloc ?_ _)); exact BK132.out⟩, ⟨by (with_reducible repeat (first | refine blk_drewN ?_ _ | refine blk_drew ?_ | refine blk_alloc ?_ _)); refine blk_put (cs := #[.int .i64 ((rd_T111 l0_1 x6_1).f0), .int .i64 ((rd_T111 l0_1 x6_1).f1), .int .i64 ((rd_T111 l0_1 x6_1).f2), .string (⟨#[]⟩ : ByteArray)]) ?_ 3 _ rfl; (with_reducible repeat (first | refine blk_drewN ?_ _ | refine blk_drew ?_ | refine blk_alloc ?_ _)); refine blk_put (cs := #[.int .i64 ((rd_T111 l0_1 x6_1).f0), .int .i64 ((rd_T111 l0_1 x6_1).f1), .int .i64 0, .string (⟨#[]⟩ : ByteArray)]) ?_ 2 _ rfl; (with_reducible repeat (first | refine blk_drewN ?_ _ | refine blk_drew ?_ | refine blk_alloc ?_ _)); refine blk_put (cs := #[.int .i64 ((rd_T111 l0_1 x6_1).f0), .int .i64 0, .int .i64 0, .string (⟨#[]⟩ : ByteArray)]) ?_ 1 _ rfl; (with_reducible repeat (first | refine blk_drewN ?_ _ | refine blk_drew ?_ | refine blk_alloc ?_ _)); refine blk_put (cs := #[.int .i64 0, .int .i64 0, .int .i64 0, .string (⟨#[]⟩ : ByteArray)]) ?_ 0 _ rfl; (with_reducible repeat (first | refine blk_drewN ?_ _ | refine blk_drew ?_ | refine blk_alloc ?_ _)); exact BK134.out⟩, ⟨by repeat (first | (with_reducible first | exact HB.out | apply below_alloc | apply pw_below_drewN | apply below_drew1 | refine below_set ?_ GE132.out | refine below_set ?_ GE134.out) | exact HB.out)⟩⟩
            · rw [if_neg c10] at H
              have c10b0 : (((rd_T111 l0_1 x6_1).f0) == 4) = false := beq_eq_false_iff_ne.mpr c10
              have c10b1 : (((rd_T111 l0_1 x6_1).f0) != 4) = true := bne_iff_ne.mpr c10
              (first | rw [c10b0] | (simp only [i64_w, i32_w]; rw [c10b0]) | rw [c10b1] | skip)
              by_cases c13 : ((rd_T111 l0_1 x6_1).f0) = 5
              · rw [if_pos c13] at H
                have c13b0 : (((rd_T111 l0_1 x6_1).f0) == 5) = true := beq_iff_eq.mpr c13
                have c13b1 : (((rd_T111 l0_1 x6_1).f0) != 5) = false := bne_eq_false_iff_eq.mpr c13
                clear c13
                have H' := Aside0.mk H
                clear H
                have hnb14 := NB134_132.out
                have hnc14 := NB132_134.out
                have hcz15_0 : w7.cell? ⟨gb134, 0, none⟩ = some (.int .i64 0) := (blk_cell BK134.out 0).trans rfl
                have hcz15_1 : w7.cell? ⟨gb134, 1, none⟩ = some (.int .i64 0) := (blk_cell BK134.out 1).trans rfl
                have hcz15_2 : w7.cell? ⟨gb134, 2, none⟩ = some (.int .i64 0) := (blk_cell BK134.out 2).trans rfl
                have hcz15_3 : w7.cell? ⟨gb134, 3, none⟩ = some (.string (⟨#[]⟩ : ByteArray)) := (blk_cell BK134.out 3).trans rfl
                have hfz15_0 := blk_frozen BK134.out 0
                have hfz15_1 := blk_frozen BK134.out 1
                have hfz15_2 := blk_frozen BK134.out 2
                have hfz15_3 := blk_frozen BK134.out 3
                go_wp2
                go_meet
                case rel => exact ⟨_, (false), by9, H', ⟨by have := HK1.out; first | omega | exact Nat.le_refl _⟩, ⟨by (with_reducible repeat (first | refine blk_drewN ?_ _ | refine blk_drew ?_ | refine blk_alloc ?_ _)); refine blk_far ?_ NB132_134.out _; (with_reducible repeat (first | refine blk_drewN ?_ _ | refine blk_drew ?_ | refine blk_alloc ?_ _)); refine blk_far ?_ NB132_134.out _; (with_reducible repeat (first | refine blk_drewN ?_ _ | refine blk_drew ?_ | refine blk_alloc ?_ _)); refine blk_far ?_ NB132_134.out _; (with_reducible repeat (first | refine blk_drewN ?_ _ | refine blk_drew ?_ | refine blk_alloc ?_ _)); refine blk_far ?_ NB132_134.out _; (with_reducible repeat (first | refine blk_drewN ?_ _ | refine blk_drew ?_ | refine blk_alloc ?_ _)); exact BK132.out⟩, ⟨by (with_reducible repeat (first | refine blk_drewN ?_ _ | refine blk_drew ?_ | refine blk_alloc ?_ _)); refine blk_put (cs := #[.int .i64 ((rd_T111 l0_1 x6_1).f0), .int .i64 ((rd_T111 l0_1 x6_1).f1), .int .i64 ((rd_T111 l0_1 x6_1).f2), .string (⟨#[]⟩ : ByteArray)]) ?_ 3 _ rfl; (with_reducible repeat (first | refine blk_drewN ?_ _ | refine blk_drew ?_ | refine blk_alloc ?_ _)); refine blk_put (cs := #[.int .i64 ((rd_T111 l0_1 x6_1).f0), .int .i64 ((rd_T111 l0_1 x6_1).f1), .int .i64 0, .string (⟨#[]⟩ : ByteArray)]) ?_ 2 _ rfl; (with_reducible repeat (first | refine blk_drewN ?_ _ | refine blk_drew ?_ | refine blk_alloc ?_ _)); refine blk_put (cs := #[.int .i64 ((rd_T111 l0_1 x6_1).f0), .int .i64 0, .int .i64 0, .string (⟨#[]⟩ : ByteArray)]) ?_ 1 _ rfl; (with_reducible repeat (first | refine blk_drewN ?_ _ | refine blk_drew ?_ | refine blk_alloc ?_ _)); refine blk_put (cs := #[.int .i64 0, .int .i64 0, .int .i64 0, .string (⟨#[]⟩ : ByteArray)]) ?_ 0 _ rfl; (with_reducible repeat (first | refine blk_drewN ?_ _ | refine blk_drew ?_ | refine blk_alloc ?_ _)); exact BK134.out⟩, ⟨by repeat (first | (with_reducible first | exact HB.out | apply below_alloc | apply pw_below_drewN | apply below_drew1 | refine below_set ?_ GE132.out | refine below_set ?_ GE134.out) | exact HB.out)⟩⟩
              · rw [if_neg c13] at H
                have c13b0 : (((rd_T111 l0_1 x6_1).f0) == 5) = false := beq_eq_false_iff_ne.mpr c13
                have c13b1 : (((rd_T111 l0_1 x6_1).f0) != 5) = true := bne_iff_ne.mpr c13
                have H' := Aside0.mk H
                clear H
                have hnb16 := NB134_132.out
                have hnc16 := NB132_134.out
                have hcz17_0 : w7.cell? ⟨gb134, 0, none⟩ = some (.int .i64 0) := (blk_cell BK134.out 0).trans rfl
                have hcz17_1 : w7.cell? ⟨gb134, 1, none⟩ = some (.int .i64 0) := (blk_cell BK134.out 1).trans rfl
                have hcz17_2 : w7.cell? ⟨gb134, 2, none⟩ = some (.int .i64 0) := (blk_cell BK134.out 2).trans rfl
                have hcz17_3 : w7.cell? ⟨gb134, 3, none⟩ = some (.string (⟨#[]⟩ : ByteArray)) := (blk_cell BK134.out 3).trans rfl
                have hfz17_0 := blk_frozen BK134.out 0
                have hfz17_1 := blk_frozen BK134.out 1
                have hfz17_2 := blk_frozen BK134.out 2
                have hfz17_3 := blk_frozen BK134.out 3
                go_wp2
                go_meet
                case rel => exact ⟨_, ((((rd_T111 l0_1 x6_1).f0) != 6)), by9, H', ⟨by have := HK1.out; first | omega | exact Nat.le_refl _⟩, ⟨by (with_reducible repeat (first | refine blk_drewN ?_ _ | refine blk_drew ?_ | refine blk_alloc ?_ _)); refine blk_far ?_ NB132_134.out _; (with_reducible repeat (first | refine blk_drewN ?_ _ | refine blk_drew ?_ | refine blk_alloc ?_ _)); refine blk_far ?_ NB132_134.out _; (with_reducible repeat (first | refine blk_drewN ?_ _ | refine blk_drew ?_ | refine blk_alloc ?_ _)); refine blk_far ?_ NB132_134.out _; (with_reducible repeat (first | refine blk_drewN ?_ _ | refine blk_drew ?_ | refine blk_alloc ?_ _)); refine blk_far ?_ NB132_134.out _; (with_reducible repeat (first | refine blk_drewN ?_ _ | refine blk_drew ?_ | refine blk_alloc ?_ _)); exact BK132.out⟩, ⟨by (with_reducible repeat (first | refine blk_drewN ?_ _ | refine blk_drew ?_ | refine blk_alloc ?_ _)); refine blk_put (cs := #[.int .i64 ((rd_T111 l0_1 x6_1).f0), .int .i64 ((rd_T111 l0_1 x6_1).f1), .int .i64 ((rd_T111 l0_1 x6_1).f2), .string (⟨#[]⟩ : ByteArray)]) ?_ 3 _ rfl; (with_reducible repeat (first | refine blk_drewN ?_ _ | refine blk_drew ?_ | refine blk_alloc ?_ _)); refine blk_put (cs := #[.int .i64 ((rd_T111 l0_1 x6_1).f0), .int .i64 ((rd_T111 l0_1 x6_1).f1), .int .i64 0, .string (⟨#[]⟩ : ByteArray)]) ?_ 2 _ rfl; (with_reducible repeat (first | refine blk_drewN ?_ _ | refine blk_drew ?_ | refine blk_alloc ?_ _)); refine blk_put (cs := #[.int .i64 ((rd_T111 l0_1 x6_1).f0), .int .i64 0, .int .i64 0, .string (⟨#[]⟩ : ByteArray)]) ?_ 1 _ rfl; (with_reducible repeat (first | refine blk_drewN ?_ _ | refine blk_drew ?_ | refine blk_alloc ?_ _)); refine blk_put (cs := #[.int .i64 0, .int .i64 0, .int .i64 0, .string (⟨#[]⟩ : ByteArray)]) ?_ 0 _ rfl; (with_reducible repeat (first | refine blk_drewN ?_ _ | refine blk_drew ?_ | refine blk_alloc ?_ _)); exact BK134.out⟩, ⟨by repeat (first | (with_reducible first | exact HB.out | apply below_alloc | apply pw_below_drewN | apply below_drew1 | refine below_set ?_ GE132.out | refine below_set ?_ GE134.out) | exact HB.out)⟩⟩
          case rest =>
            clear HC5
            try clear c1
            try clear p1
            try clear q1
            try clear hx1
            try clear p2
            try clear c3
            try clear c3b0
            try clear c4
            try clear c4b0
            try clear c8
            try clear c10
            try clear c10b0
            try clear c10b1
            try clear c11
            try clear c13
            try clear c13b0
            try clear c13b1
            try clear p13
            try clear q13
            try clear hx13
            try clear c14
            try clear c16
            try clear hcz12_0
            try clear hcz12_1
            try clear hcz12_2
            try clear hcz12_3
            try clear hcz15_0
            try clear hcz15_1
            try clear hcz15_2
            try clear hcz15_3
            try clear hcz17_0
            try clear hcz17_1
            try clear hcz17_2
            try clear hcz17_3
            try clear hcz6_0
            try clear hcz6_1
            try clear hcz9_0
            try clear hcz9_1
            try clear hcz9_2
            try clear hcz9_3
            try clear hfz12_0
            try clear hfz12_1
            try clear hfz12_2
            try clear hfz12_3
            try clear hfz15_0
            try clear hfz15_1
            try clear hfz15_2
            try clear hfz15_3
            try clear hfz17_0
            try clear hfz17_1
            try clear hfz17_2
            try clear hfz17_3
            try clear hfz6_0
            try clear hfz6_1
            try clear hfz9_0
            try clear hfz9_1
            try clear hfz9_2
            try clear hfz9_3
            try clear hx133_0
            try clear hx133_1
            try clear hx133_2
            try clear hx133_3
            try clear p133
            try clear p2
            try clear q133
            obtain ⟨kq, x32_4, rfl, HA, HJ4, BK132, BK134, HB⟩ := hcut
            cases kq with
            | zero => exact absurd HA.out (by simp [spec_l10Segments.j1])
            | succ kj4 =>
              have H := HA.out
              clear HA
              simp only [spec_l10Segments.j1] at H
              by_cases c18 : x32_4 = true
              · subst c18
                have H1 : (some (x6_1, 14)) = some (r1, r2) := by rw [if_pos rfl] at H; exact H
                clear H
                have H := H1
                clear H1
                simp only [Option.some.injEq, Prod.mk.injEq] at H
                obtain ⟨rfl, rfl⟩ := H
                go_wp2
                go_ret2
                exact ⟨by first | rfl | (simp [errW_none, errW_some] <;> rfl) | (simp [*, errW_none, errW_some] <;> rfl), by repeat (first | (with_reducible first | exact HB.out | apply below_alloc | apply pw_below_drewN | apply below_drew1 | refine below_set ?_ GE132.out | refine below_set ?_ GE134.out) | exact HB.out)⟩
              · replace c18 := Bool.eq_false_iff.mpr c18
                subst c18
                have H1 : (if (Int.tmod ((rd_T111 l0_1 x6_1).f1) 256) = 0 then ((spec_l01In.f ((rd_T111 l0_1 x6_1).f1) x4_1 3583).bind fun t135 => (if t135 = true then ((spec_l01In.f ((rd_T111 l0_1 x6_1).f2) 1 (wrap64 (3584 - ((rd_T111 l0_1 x6_1).f1)))).bind fun t136 => (if t136 = true then (spec_l10Segments.j2 kj4 x5_1 x6_1 (decide ((((rd_T111 l0_1 x6_1).f3).size : Int) > ((rd_T111 l0_1 x6_1).f2))) a0_0 l0_1 ((rd_T111 l0_1 x6_1).f0) ((rd_T111 l0_1 x6_1).f1) ((rd_T111 l0_1 x6_1).f2) ((rd_T111 l0_1 x6_1).f3)) else (spec_l10Segments.j2 kj4 x5_1 x6_1 true a0_0 l0_1 ((rd_T111 l0_1 x6_1).f0) ((rd_T111 l0_1 x6_1).f1) ((rd_T111 l0_1 x6_1).f2) ((rd_T111 l0_1 x6_1).f3)))) else (spec_l10Segments.j2 kj4 x5_1 x6_1 true a0_0 l0_1 ((rd_T111 l0_1 x6_1).f0) ((rd_T111 l0_1 x6_1).f1) ((rd_T111 l0_1 x6_1).f2) ((rd_T111 l0_1 x6_1).f3)))) else (spec_l10Segments.j2 kj4 x5_1 x6_1 true a0_0 l0_1 ((rd_T111 l0_1 x6_1).f0) ((rd_T111 l0_1 x6_1).f1) ((rd_T111 l0_1 x6_1).f2) ((rd_T111 l0_1 x6_1).f3))) = some (r1, r2) := by rw [if_neg (show ¬ (false = true) by decide)] at H; exact H
                clear H
                have H := H1
                clear H1
                have HC19 := Aside0.mk H
                clear H
                go_upto_region 9 with (fail)
                go_cut [61] (fun v61 wc => ∃ (kq : Nat) (x61_18 : Bool), v61 = .bool x61_18 ∧ Aside0 (spec_l10Segments.j2 kq x5_1 x6_1 x61_18 a0_0 l0_1 ((rd_T111 l0_1 x6_1).f0) ((rd_T111 l0_1 x6_1).f1) ((rd_T111 l0_1 x6_1).f2) ((rd_T111 l0_1 x6_1).f3) = some (r1, r2)) ∧ Aside0 (kq ≤ kj4) ∧ Aside0 (wc.heap[gb132]? = some (.cells #[.int .i64 a0_0, (.slice (some ad133) l0_1.length c0_1)] 29 (0, 0))) ∧ Aside0 (wc.heap[gb134]? = some (.cells #[.int .i64 ((rd_T111 l0_1 x6_1).f0), .int .i64 ((rd_T111 l0_1 x6_1).f1), .int .i64 ((rd_T111 l0_1 x6_1).f2), .string ((rd_T111 l0_1 x6_1).f3)] 111 (0, 0))) ∧ Aside0 (Below w.heap.size w wc))
                case first =>
                  have H := HC19.out
                  clear HC19
                  by_cases c20 : (Int.tmod ((rd_T111 l0_1 x6_1).f1) 256) = 0
                  · rw [if_pos c20] at H
                    have c20b0 : ((Int.tmod ((rd_T111 l0_1 x6_1).f1) 256) == 0) = true := beq_iff_eq.mpr c20
                    have c20b1 : ((Int.tmod ((rd_T111 l0_1 x6_1).f1) 256) != 0) = false := bne_eq_false_iff_eq.mpr c20
                    clear c20
                    (first | rw [c20b0] | (simp only [i64_w, i32_w]; rw [c20b0]) | rw [c20b1] | skip)
                    replace H := Option.bind_eq_some_iff.mp H
                    obtain ⟨t135, A210, H⟩ := H
                    replace H : (if t135 = true then ((spec_l01In.f ((rd_T111 l0_1 x6_1).f2) 1 (wrap64 (3584 - ((rd_T111 l0_1 x6_1).f1)))).bind fun t136 => (if t136 = true then (spec_l10Segments.j2 kj4 x5_1 x6_1 (decide ((((rd_T111 l0_1 x6_1).f3).size : Int) > ((rd_T111 l0_1 x6_1).f2))) a0_0 l0_1 ((rd_T111 l0_1 x6_1).f0) ((rd_T111 l0_1 x6_1).f1) ((rd_T111 l0_1 x6_1).f2) ((rd_T111 l0_1 x6_1).f3)) else (spec_l10Segments.j2 kj4 x5_1 x6_1 true a0_0 l0_1 ((rd_T111 l0_1 x6_1).f0) ((rd_T111 l0_1 x6_1).f1) ((rd_T111 l0_1 x6_1).f2) ((rd_T111 l0_1 x6_1).f3)))) else (spec_l10Segments.j2 kj4 x5_1 x6_1 true a0_0 l0_1 ((rd_T111 l0_1 x6_1).f0) ((rd_T111 l0_1 x6_1).f1) ((rd_T111 l0_1 x6_1).f2) ((rd_T111 l0_1 x6_1).f3))) = some (r1, r2) := H
                    have A21 := Aside0.mk A210
                    clear A210
                    by_cases c22 : t135 = true
                    · subst c22
                      have H1 : ((spec_l01In.f ((rd_T111 l0_1 x6_1).f2) 1 (wrap64 (3584 - ((rd_T111 l0_1 x6_1).f1)))).bind fun t136 => (if t136 = true then (spec_l10Segments.j2 kj4 x5_1 x6_1 (decide ((((rd_T111 l0_1 x6_1).f3).size : Int) > ((rd_T111 l0_1 x6_1).f2))) a0_0 l0_1 ((rd_T111 l0_1 x6_1).f0) ((rd_T111 l0_1 x6_1).f1) ((rd_T111 l0_1 x6_1).f2) ((rd_T111 l0_1 x6_1).f3)) else (spec_l10Segments.j2 kj4 x5_1 x6_1 true a0_0 l0_1 ((rd_T111 l0_1 x6_1).f0) ((rd_T111 l0_1 x6_1).f1) ((rd_T111 l0_1 x6_1).f2) ((rd_T111 l0_1 x6_1).f3)))) = some (r1, r2) := by rw [if_pos rfl] at H; exact H
                      clear H
                      have H := H1
                      clear H1
                      replace H := Option.bind_eq_some_iff.mp H
                      obtain ⟨t136, A230, H⟩ := H
                      replace H : (if t136 = true then (spec_l10Segments.j2 kj4 x5_1 x6_1 (decide ((((rd_T111 l0_1 x6_1).f3).size : Int) > ((rd_T111 l0_1 x6_1).f2))) a0_0 l0_1 ((rd_T111 l0_1 x6_1).f0) ((rd_T111 l0_1 x6_1).f1) ((rd_T111 l0_1 x6_1).f2) ((rd_T111 l0_1 x6_1).f3)) else (spec_l10Segments.j2 kj4 x5_1 x6_1 true a0_0 l0_1 ((rd_T111 l0_1 x6_1).f0) ((rd_T111 l0_1 x6_1).f1) ((rd_T111 l0_1 x6_1).f2) ((rd_T111 l0_1 x6_1).f3))) = some (r1, r2) := H
                      have A23 := Aside0.mk A230
                      clear A230
                      by_cases c24 : t136 = true
                      · subst c24
                        have H1 : (spec_l10Segments.j2 kj4 x5_1 x6_1 (decide ((((rd_T111 l0_1 x6_1).f3).size : Int) > ((rd_T111 l0_1 x6_1).f2))) a0_0 l0_1 ((rd_T111 l0_1 x6_1).f0) ((rd_T111 l0_1 x6_1).f1) ((rd_T111 l0_1 x6_1).f2) ((rd_T111 l0_1 x6_1).f3)) = some (r1, r2) := by rw [if_pos rfl] at H; exact H
                        clear H
                        have H := H1
                        clear H1
                        have H' := Aside0.mk H
                        clear H
                        have hnb25 := NB134_132.out
                        have hnc25 := NB132_134.out
                        have hcz26_0 : wc.cell? ⟨gb134, 0, none⟩ = some (.int .i64 ((rd_T111 l0_1 x6_1).f0)) := (blk_cell BK134.out 0).trans rfl
                        have hcz26_1 : wc.cell? ⟨gb134, 1, none⟩ = some (.int .i64 ((rd_T111 l0_1 x6_1).f1)) := (blk_cell BK134.out 1).trans rfl
                        have hcz26_2 : wc.cell? ⟨gb134, 2, none⟩ = some (.int .i64 ((rd_T111 l0_1 x6_1).f2)) := (blk_cell BK134.out 2).trans rfl
                        have hcz26_3 : wc.cell? ⟨gb134, 3, none⟩ = some (.string ((rd_T111 l0_1 x6_1).f3)) := (blk_cell BK134.out 3).trans rfl
                        have hfz26_0 := blk_frozen BK134.out 0
                        have hfz26_1 := blk_frozen BK134.out 1
                        have hfz26_2 := blk_frozen BK134.out 2
                        have hfz26_3 := blk_frozen BK134.out 3
                        go_wp2_with (first | (go_at_call 81; (with_reducible refine (spec_l01In.calls ((rd_T111 l0_1 x6_1).f1) x4_1 3583 true _ A21.out).mono ?_); rintro e w' ⟨rfl, ⟨nd, rfl⟩⟩) | (go_at_call 81; (with_reducible refine (spec_l01In.calls ((rd_T111 l0_1 x6_1).f2) 1 (wrap64 (3584 - ((rd_T111 l0_1 x6_1).f1))) true _ A23.out).mono ?_); rintro e w' ⟨rfl, ⟨nd, rfl⟩⟩))
                        go_meet
                        case rel => exact ⟨_, (decide ((((rd_T111 l0_1 x6_1).f3).size : Int) > ((rd_T111 l0_1 x6_1).f2))), by9, H', ⟨by have := HK1.out; have := HJ4.out; first | omega | exact Nat.le_refl _⟩, ⟨by (with_reducible repeat (first | refine blk_drewN ?_ _ | refine blk_drew ?_ | refine blk_alloc ?_ _)); exact BK132.out⟩, ⟨by (with_reducible repeat (first | refine blk_drewN ?_ _ | refine blk_drew ?_ | refine blk_alloc ?_ _)); exact BK134.out⟩, ⟨by repeat (first | (with_reducible first | exact HB.out | apply below_alloc | apply pw_below_drewN | apply below_drew1 | refine below_set ?_ GE132.out | refine below_set ?_ GE134.out) | exact HB.out)⟩⟩
                      · replace c24 := Bool.eq_false_iff.mpr c24
                        subst c24
                        have H1 : (spec_l10Segments.j2 kj4 x5_1 x6_1 true a0_0 l0_1 ((rd_T111 l0_1 x6_1).f0) ((rd_T111 l0_1 x6_1).f1) ((rd_T111 l0_1 x6_1).f2) ((rd_T111 l0_1 x6_1).f3)) = some (r1, r2) := by rw [if_neg (show ¬ (false = true) by decide)] at H; exact H
                        clear H
                        have H := H1
                        clear H1
                        have H' := Aside0.mk H
                        clear H
                        have hnb27 := NB134_132.out
                        have hnc27 := NB132_134.out
                        have hcz28_0 : wc.cell? ⟨gb134, 0, none⟩ = some (.int .i64 ((rd_T111 l0_1 x6_1).f0)) := (blk_cell BK134.out 0).trans rfl
                        have hcz28_1 : wc.cell? ⟨gb134, 1, none⟩ = some (.int .i64 ((rd_T111 l0_1 x6_1).f1)) := (blk_cell BK134.out 1).trans rfl
                        have hcz28_2 : wc.cell? ⟨gb134, 2, none⟩ = some (.int .i64 ((rd_T111 l0_1 x6_1).f2)) := (blk_cell BK134.out 2).trans rfl
                        have hcz28_3 : wc.cell? ⟨gb134, 3, none⟩ = some (.string ((rd_T111 l0_1 x6_1).f3)) := (blk_cell BK134.out 3).trans rfl
                        have hfz28_0 := blk_frozen BK134.out 0
                        have hfz28_1 := blk_frozen BK134.out 1
                        have hfz28_2 := blk_frozen BK134.out 2
                        have hfz28_3 := blk_frozen BK134.out 3
                        go_wp2_with (first | (go_at_call 81; (with_reducible refine (spec_l01In.calls ((rd_T111 l0_1 x6_1).f1) x4_1 3583 true _ A21.out).mono ?_); rintro e w' ⟨rfl, ⟨nd, rfl⟩⟩) | (go_at_call 81; (with_reducible refine (spec_l01In.calls ((rd_T111 l0_1 x6_1).f2) 1 (wrap64 (3584 - ((rd_T111 l0_1 x6_1).f1))) false _ A23.out).mono ?_); rintro e w' ⟨rfl, ⟨nd, rfl⟩⟩))
                        go_meet
                        case rel => exact ⟨_, (true), by9, H', ⟨by have := HK1.out; have := HJ4.out; first | omega | exact Nat.le_refl _⟩, ⟨by (with_reducible repeat (first | refine blk_drewN ?_ _ | refine blk_drew ?_ | refine blk_alloc ?_ _)); exact BK132.out⟩, ⟨by (with_reducible repeat (first | refine blk_drewN ?_ _ | refine blk_drew ?_ | refine blk_alloc ?_ _)); exact BK134.out⟩, ⟨by repeat (first | (with_reducible first | exact HB.out | apply below_alloc | apply pw_below_drewN | apply below_drew1 | refine below_set ?_ GE132.out | refine below_set ?_ GE134.out) | exact HB.out)⟩⟩
                    · replace c22 := Bool.eq_false_iff.mpr c22
                      subst c22
                      have H1 : (spec_l10Segments.j2 kj4 x5_1 x6_1 true a0_0 l0_1 ((rd_T111 l0_1 x6_1).f0) ((rd_T111 l0_1 x6_1).f1) ((rd_T111 l0_1 x6_1).f2) ((rd_T111 l0_1 x6_1).f3)) = some (r1, r2) := by rw [if_neg (show ¬ (false = true) by decide)] at H; exact H
                      clear H
                      have H := H1
                      clear H1
                      have H' := Aside0.mk H
                      clear H
                      have hnb29 := NB134_132.out
                      have hnc29 := NB132_134.out
                      have hcz30_0 : wc.cell? ⟨gb134, 0, none⟩ = some (.int .i64 ((rd_T111 l0_1 x6_1).f0)) := (blk_cell BK134.out 0).trans rfl
                      have hcz30_1 : wc.cell? ⟨gb134, 1, none⟩ = some (.int .i64 ((rd_T111 l0_1 x6_1).f1)) := (blk_cell BK134.out 1).trans rfl
                      have hcz30_2 : wc.cell? ⟨gb134, 2, none⟩ = some (.int .i64 ((rd_T111 l0_1 x6_1).f2)) := (blk_cell BK134.out 2).trans rfl
                      have hcz30_3 : wc.cell? ⟨gb134, 3, none⟩ = some (.string ((rd_T111 l0_1 x6_1).f3)) := (blk_cell BK134.out 3).trans rfl
                      have hfz30_0 := blk_frozen BK134.out 0
                      have hfz30_1 := blk_frozen BK134.out 1
                      have hfz30_2 := blk_frozen BK134.out 2
                      have hfz30_3 := blk_frozen BK134.out 3
                      go_wp2_with (first | (go_at_call 81; (with_reducible refine (spec_l01In.calls ((rd_T111 l0_1 x6_1).f1) x4_1 3583 false _ A21.out).mono ?_); rintro e w' ⟨rfl, ⟨nd, rfl⟩⟩))
                      go_meet
                      case rel => exact ⟨_, (true), by9, H', ⟨by have := HK1.out; have := HJ4.out; first | omega | exact Nat.le_refl _⟩, ⟨by (with_reducible repeat (first | refine blk_drewN ?_ _ | refine blk_drew ?_ | refine blk_alloc ?_ _)); exact BK132.out⟩, ⟨by (with_reducible repeat (first | refine blk_drewN ?_ _ | refine blk_drew ?_ | refine blk_alloc ?_ _)); exact BK134.out⟩, ⟨by repeat (first | (with_reducible first | exact HB.out | apply below_alloc | apply pw_below_drewN | apply below_drew1 | refine below_set ?_ GE132.out | refine below_set ?_ GE134.out) | exact HB.out)⟩⟩
                  · rw [if_neg c20] at H
                    have c20b0 : ((Int.tmod ((rd_T111 l0_1 x6_1).f1) 256) == 0) = false := beq_eq_false_iff_ne.mpr c20
                    have c20b1 : ((Int.tmod ((rd_T111 l0_1 x6_1).f1) 256) != 0) = true := bne_iff_ne.mpr c20
                    (first | rw [c20b0] | (simp only [i64_w, i32_w]; rw [c20b0]) | rw [c20b1] | skip)
                    have H' := Aside0.mk H
                    clear H
                    have hnb31 := NB134_132.out
                    have hnc31 := NB132_134.out
                    have hcz32_0 : wc.cell? ⟨gb134, 0, none⟩ = some (.int .i64 ((rd_T111 l0_1 x6_1).f0)) := (blk_cell BK134.out 0).trans rfl
                    have hcz32_1 : wc.cell? ⟨gb134, 1, none⟩ = some (.int .i64 ((rd_T111 l0_1 x6_1).f1)) := (blk_cell BK134.out 1).trans rfl
                    have hcz32_2 : wc.cell? ⟨gb134, 2, none⟩ = some (.int .i64 ((rd_T111 l0_1 x6_1).f2)) := (blk_cell BK134.out 2).trans rfl
                    have hcz32_3 : wc.cell? ⟨gb134, 3, none⟩ = some (.string ((rd_T111 l0_1 x6_1).f3)) := (blk_cell BK134.out 3).trans rfl
                    have hfz32_0 := blk_frozen BK134.out 0
                    have hfz32_1 := blk_frozen BK134.out 1
                    have hfz32_2 := blk_frozen BK134.out 2
                    have hfz32_3 := blk_frozen BK134.out 3
                    go_wp2
                    go_meet
                    case rel => exact ⟨_, (true), by9, H', ⟨by have := HK1.out; have := HJ4.out; first | omega | exact Nat.le_refl _⟩, ⟨by (with_reducible repeat (first | refine blk_drewN ?_ _ | refine blk_drew ?_ | refine blk_alloc ?_ _)); exact BK132.out⟩, ⟨by (with_reducible repeat (first | refine blk_drewN ?_ _ | refine blk_drew ?_ | refine blk_alloc ?_ _)); exact BK134.out⟩, ⟨by repeat (first | (with_reducible first | exact HB.out | apply below_alloc | apply pw_below_drewN | apply below_drew1 | refine below_set ?_ GE132.out | refine below_set ?_ GE134.out) | exact HB.out)⟩⟩
                case rest =>
                  clear HC19
                  try clear c1
                  try clear p1
                  try clear q1
                  try clear hx1
                  try clear c2
                  try clear p2
                  try clear c3
                  try clear c3b0
                  try clear c4
                  try clear c4b0
                  try clear p6
                  try clear c8
                  try clear c10
                  try clear c10b0
                  try clear c10b1
                  try clear c11
                  try clear c13
                  try clear c13b0
                  try clear c13b1
                  try clear p13
                  try clear q13
                  try clear hx13
                  try clear c14
                  try clear c16
                  try clear c18
                  try clear c20
                  try clear c20b0
                  try clear c20b1
                  try clear c22
                  try clear c24
                  try clear c25
                  try clear c27
                  try clear c29
                  try clear c31
                  try clear hcz12_0
                  try clear hcz12_1
                  try clear hcz12_2
                  try clear hcz12_3
                  try clear hcz15_0
                  try clear hcz15_1
                  try clear hcz15_2
                  try clear hcz15_3
                  try clear hcz17_0
                  try clear hcz17_1
                  try clear hcz17_2
                  try clear hcz17_3
                  try clear hcz26_0
                  try clear hcz26_1
                  try clear hcz26_2
                  try clear hcz26_3
                  try clear hcz28_0
                  try clear hcz28_1
                  try clear hcz28_2
                  try clear hcz28_3
                  try clear hcz30_0
                  try clear hcz30_1
                  try clear hcz30_2
                  try clear hcz30_3
                  try clear hcz32_0
                  try clear hcz32_1
                  try clear hcz32_2
                  try clear hcz32_3
                  try clear hcz6_0
                  try clear hcz6_1
                  try clear hcz9_0
                  try clear hcz9_1
                  try clear hcz9_2
                  try clear hcz9_3
                  try clear hfz12_0
                  try clear hfz12_1
                  try clear hfz12_2
                  try clear hfz12_3
                  try clear hfz15_0
                  try clear hfz15_1
                  try clear hfz15_2
                  try clear hfz15_3
                  try clear hfz17_0
                  try clear hfz17_1
                  try clear hfz17_2
                  try clear hfz17_3
                  try clear hfz26_0
                  try clear hfz26_1
                  try clear hfz26_2
                  try clear hfz26_3
                  try clear hfz28_0
                  try clear hfz28_1
                  try clear hfz28_2
                  try clear hfz28_3
                  try clear hfz30_0
                  try clear hfz30_1
                  try clear hfz30_2
                  try clear hfz30_3
                  try clear hfz32_0
                  try clear hfz32_1
                  try clear hfz32_2
                  try clear hfz32_3
                  try clear hfz6_0
                  try clear hfz6_1
                  try clear hfz9_0
                  try clear hfz9_1
                  try clear hfz9_2
                  try clear hfz9_3
                  try clear hx133_0
                  try clear hx133_1
                  try clear hx133_2
                  try clear hx133_3
                  try clear p1
                  try clear p13
                  try clear p133
                  try clear p2
                  try clear q1
                  try clear q13
                  try clear q133
                  obtain ⟨kq, x61_18, rfl, HA, HJ18, BK132, BK134, HB⟩ := hcut
                  cases kq with
                  | zero => exact absurd HA.out (by simp [spec_l10Segments.j2])
                  | succ kj18 =>
                    have H := HA.out
                    clear HA
                    simp only [spec_l10Segments.j2] at H
                    by_cases c33 : x61_18 = true
                    · subst c33
                      have H1 : (some (x6_1, 31)) = some (r1, r2) := by rw [if_pos rfl] at H; exact H
                      clear H
                      have H := H1
                      clear H1
                      simp only [Option.some.injEq, Prod.mk.injEq] at H
                      obtain ⟨rfl, rfl⟩ := H
                      go_wp2
                      go_ret2
                      exact ⟨by first | rfl | (simp [errW_none, errW_some] <;> rfl) | (simp [*, errW_none, errW_some] <;> rfl), by repeat (first | (with_reducible first | exact HB.out | apply below_alloc | apply pw_below_drewN | apply below_drew1 | refine below_set ?_ GE132.out | refine below_set ?_ GE134.out) | exact HB.out)⟩
                    · replace c33 := Bool.eq_false_iff.mpr c33
                      subst c33
                      have H1 : (if ((rd_T111 l0_1 x6_1).f0) = 5 then (if (wrap64 (x5_1 + 1)) > 1 then (some (x6_1, 28)) else (if (((rd_T111 l0_1 x6_1).f3).size : Int) = ((rd_T111 l0_1 x6_1).f2) then (if (Int.tmod ((rd_T111 l0_1 x6_1).f2) 32) = 0 then (spec_l10Segments.j3 kj18 (wrap64 (x5_1 + 1)) x6_1 a0_0 l0_1 ((rd_T111 l0_1 x6_1).f0) ((rd_T111 l0_1 x6_1).f1) ((rd_T111 l0_1 x6_1).f2) ((rd_T111 l0_1 x6_1).f3)) else (some (x6_1, 28))) else (some (x6_1, 28)))) else (spec_l10Segments.j3 kj18 x5_1 x6_1 a0_0 l0_1 ((rd_T111 l0_1 x6_1).f0) ((rd_T111 l0_1 x6_1).f1) ((rd_T111 l0_1 x6_1).f2) ((rd_T111 l0_1 x6_1).f3))) = some (r1, r2) := by rw [if_neg (show ¬ (false = true) by decide)] at H; exact H
                      clear H
                      have H := H1
                      clear H1
                      have HC34 := Aside0.mk H
                      clear H
                      have hnb35 := NB134_132.out
                      have hnc35 := NB132_134.out
                      have hcz36_0 : wc.cell? ⟨gb134, 0, none⟩ = some (.int .i64 ((rd_T111 l0_1 x6_1).f0)) := (blk_cell BK134.out 0).trans rfl
                      have hcz36_1 : wc.cell? ⟨gb134, 1, none⟩ = some (.int .i64 ((rd_T111 l0_1 x6_1).f1)) := (blk_cell BK134.out 1).trans rfl
                      have hcz36_2 : wc.cell? ⟨gb134, 2, none⟩ = some (.int .i64 ((rd_T111 l0_1 x6_1).f2)) := (blk_cell BK134.out 2).trans rfl
                      have hcz36_3 : wc.cell? ⟨gb134, 3, none⟩ = some (.string ((rd_T111 l0_1 x6_1).f3)) := (blk_cell BK134.out 3).trans rfl
                      have hfz36_0 := blk_frozen BK134.out 0
                      have hfz36_1 := blk_frozen BK134.out 1
                      have hfz36_2 := blk_frozen BK134.out 2
                      have hfz36_3 := blk_frozen BK134.out 3
                      go_upto_if 65 with (fail)
                      go_cut [5] (fun v5 wc => ∃ (kq : Nat) (x5_33 : Int), v5 = .int .i64 x5_33 ∧ Aside0 (spec_l10Segments.j3 kq x5_33 x6_1 a0_0 l0_1 ((rd_T111 l0_1 x6_1).f0) ((rd_T111 l0_1 x6_1).f1) ((rd_T111 l0_1 x6_1).f2) ((rd_T111 l0_1 x6_1).f3) = some (r1, r2)) ∧ Aside0 (kq ≤ kj18) ∧ Aside0 (wc.heap[gb132]? = some (.cells #[.int .i64 a0_0, (.slice (some ad133) l0_1.length c0_1)] 29 (0, 0))) ∧ Aside0 (wc.heap[gb134]? = some (.cells #[.int .i64 ((rd_T111 l0_1 x6_1).f0), .int .i64 ((rd_T111 l0_1 x6_1).f1), .int .i64 ((rd_T111 l0_1 x6_1).f2), .string ((rd_T111 l0_1 x6_1).f3)] 111 (0, 0))) ∧ Aside0 (Below w.heap.size w wc))
                      case first =>
                        have H := HC34.out
                        clear HC34
                        by_cases c37 : ((rd_T111 l0_1 x6_1).f0) = 5
                        · rw [if_pos c37] at H
                          have c37b0 : (((rd_T111 l0_1 x6_1).f0) == 5) = true := beq_iff_eq.mpr c37
                          have c37b1 : (((rd_T111 l0_1 x6_1).f0) != 5) = false := bne_eq_false_iff_eq.mpr c37
                          clear c37
                          (first | rw [c37b0] | (simp only [i64_w, i32_w]; rw [c37b0]) | rw [c37b1] | skip)
                          by_cases c38 : (wrap64 (x5_1 + 1)) > 1
                          · rw [if_pos c38] at H
                            have c38b0 : decide (1 < (wrap64 (x5_1 + 1))) = true := decide_eq_true c38
                            clear c38
                            simp only [Option.some.injEq, Prod.mk.injEq] at H
                            obtain ⟨rfl, rfl⟩ := H
                            go_wp2
                            go_ret2
                            exact ⟨by first | rfl | (simp [errW_none, errW_some] <;> rfl) | (simp [*, errW_none, errW_some] <;> rfl), by repeat (first | (with_reducible first | exact HB.out | apply below_alloc | apply pw_below_drewN | apply below_drew1 | refine below_set ?_ GE132.out | refine below_set ?_ GE134.out) | exact HB.out)⟩
                          · rw [if_neg c38] at H
                            have c38b0 : decide (1 < (wrap64 (x5_1 + 1))) = false := decide_eq_false c38
                            clear c38
                            by_cases c39 : (((rd_T111 l0_1 x6_1).f3).size : Int) = ((rd_T111 l0_1 x6_1).f2)
                            · rw [if_pos c39] at H
                              have c39b0 : ((((rd_T111 l0_1 x6_1).f3).size : Int) == ((rd_T111 l0_1 x6_1).f2)) = true := beq_iff_eq.mpr c39
                              have c39b1 : ((((rd_T111 l0_1 x6_1).f3).size : Int) != ((rd_T111 l0_1 x6_1).f2)) = false := bne_eq_false_iff_eq.mpr c39
                              clear c39
                              by_cases c40 : (Int.tmod ((rd_T111 l0_1 x6_1).f2) 32) = 0
                              · rw [if_pos c40] at H
                                have c40b0 : ((Int.tmod ((rd_T111 l0_1 x6_1).f2) 32) == 0) = true := beq_iff_eq.mpr c40
                                have c40b1 : ((Int.tmod ((rd_T111 l0_1 x6_1).f2) 32) != 0) = false := bne_eq_false_iff_eq.mpr c40
                                clear c40
                                have H' := Aside0.mk H
                                clear H
                                have hnb41 := NB134_132.out
                                have hnc41 := NB132_134.out
                                have hcz42_0 : wc.cell? ⟨gb134, 0, none⟩ = some (.int .i64 ((rd_T111 l0_1 x6_1).f0)) := (blk_cell BK134.out 0).trans rfl
                                have hcz42_1 : wc.cell? ⟨gb134, 1, none⟩ = some (.int .i64 ((rd_T111 l0_1 x6_1).f1)) := (blk_cell BK134.out 1).trans rfl
                                have hcz42_2 : wc.cell? ⟨gb134, 2, none⟩ = some (.int .i64 ((rd_T111 l0_1 x6_1).f2)) := (blk_cell BK134.out 2).trans rfl
                                have hcz42_3 : wc.cell? ⟨gb134, 3, none⟩ = some (.string ((rd_T111 l0_1 x6_1).f3)) := (blk_cell BK134.out 3).trans rfl
                                have hfz42_0 := blk_frozen BK134.out 0
                                have hfz42_1 := blk_frozen BK134.out 1
                                have hfz42_2 := blk_frozen BK134.out 2
                                have hfz42_3 := blk_frozen BK134.out 3
                                go_wp2
                                go_meet
                                case rel => exact ⟨_, (wrap64 (x5_1 + 1)), by9, H', ⟨by have := HK1.out; have := HJ4.out; have := HJ18.out; first | omega | exact Nat.le_refl _⟩, ⟨by (with_reducible repeat (first | refine blk_drewN ?_ _ | refine blk_drew ?_ | refine blk_alloc ?_ _)); exact BK132.out⟩, ⟨by (with_reducible repeat (first | refine blk_drewN ?_ _ | refine blk_drew ?_ | refine blk_alloc ?_ _)); exact BK134.out⟩, ⟨by repeat (first | (with_reducible first | exact HB.out | apply below_alloc | apply pw_below_drewN | apply below_drew1 | refine below_set ?_ GE132.out | refine below_set ?_ GE134.out) | exact HB.out)⟩⟩
                              · rw [if_neg c40] at H
                                have c40b0 : ((Int.tmod ((rd_T111 l0_1 x6_1).f2) 32) == 0) = false := beq_eq_false_iff_ne.mpr c40
                                have c40b1 : ((Int.tmod ((rd_T111 l0_1 x6_1).f2) 32) != 0) = true := bne_iff_ne.mpr c40
                                simp only [Option.some.injEq, Prod.mk.injEq] at H
                                obtain ⟨rfl, rfl⟩ := H
                                have hnb43 := NB134_132.out
                                have hnc43 := NB132_134.out
                                have hcz44_0 : wc.cell? ⟨gb134, 0, none⟩ = some (.int .i64 ((rd_T111 l0_1 x6_1).f0)) := (blk_cell BK134.out 0).trans rfl
                                have hcz44_1 : wc.cell? ⟨gb134, 1, none⟩ = some (.int .i64 ((rd_T111 l0_1 x6_1).f1)) := (blk_cell BK134.out 1).trans rfl
                                have hcz44_2 : wc.cell? ⟨gb134, 2, none⟩ = some (.int .i64 ((rd_T111 l0_1 x6_1).f2)) := (blk_cell BK134.out 2).trans rfl
                                have hcz44_3 : wc.cell? ⟨gb134, 3, none⟩ = some (.string ((rd_T111 l0_1 x6_1).f3)) := (blk_cell BK134.out 3).trans rfl
                                have hfz44_0 := blk_frozen BK134.out 0
                                have hfz44_1 := blk_frozen BK134.out 1
                                have hfz44_2 := blk_frozen BK134.out 2
                                have hfz44_3 := blk_frozen BK134.out 3
                                go_wp2
                                go_ret2
                                exact ⟨by first | rfl | (simp [errW_none, errW_some] <;> rfl) | (simp [*, errW_none, errW_some] <;> rfl), by repeat (first | (with_reducible first | exact HB.out | apply below_alloc | apply pw_below_drewN | apply below_drew1 | refine below_set ?_ GE132.out | refine below_set ?_ GE134.out) | exact HB.out)⟩
                            · rw [if_neg c39] at H
                              have c39b0 : ((((rd_T111 l0_1 x6_1).f3).size : Int) == ((rd_T111 l0_1 x6_1).f2)) = false := beq_eq_false_iff_ne.mpr c39
                              have c39b1 : ((((rd_T111 l0_1 x6_1).f3).size : Int) != ((rd_T111 l0_1 x6_1).f2)) = true := bne_iff_ne.mpr c39
                              simp only [Option.some.injEq, Prod.mk.injEq] at H
                              obtain ⟨rfl, rfl⟩ := H
                              have hnb45 := NB134_132.out
                              have hnc45 := NB132_134.out
                              have hcz46_0 : wc.cell? ⟨gb134, 0, none⟩ = some (.int .i64 ((rd_T111 l0_1 x6_1).f0)) := (blk_cell BK134.out 0).trans rfl
                              have hcz46_1 : wc.cell? ⟨gb134, 1, none⟩ = some (.int .i64 ((rd_T111 l0_1 x6_1).f1)) := (blk_cell BK134.out 1).trans rfl
                              have hcz46_2 : wc.cell? ⟨gb134, 2, none⟩ = some (.int .i64 ((rd_T111 l0_1 x6_1).f2)) := (blk_cell BK134.out 2).trans rfl
                              have hcz46_3 : wc.cell? ⟨gb134, 3, none⟩ = some (.string ((rd_T111 l0_1 x6_1).f3)) := (blk_cell BK134.out 3).trans rfl
                              have hfz46_0 := blk_frozen BK134.out 0
                              have hfz46_1 := blk_frozen BK134.out 1
                              have hfz46_2 := blk_frozen BK134.out 2
                              have hfz46_3 := blk_frozen BK134.out 3
                              go_wp2
                              go_ret2
                              exact ⟨by first | rfl | (simp [errW_none, errW_some] <;> rfl) | (simp [*, errW_none, errW_some] <;> rfl), by repeat (first | (with_reducible first | exact HB.out | apply below_alloc | apply pw_below_drewN | apply below_drew1 | refine below_set ?_ GE132.out | refine below_set ?_ GE134.out) | exact HB.out)⟩
                        · rw [if_neg c37] at H
                          have c37b0 : (((rd_T111 l0_1 x6_1).f0) == 5) = false := beq_eq_false_iff_ne.mpr c37
                          have c37b1 : (((rd_T111 l0_1 x6_1).f0) != 5) = true := bne_iff_ne.mpr c37
                          (first | rw [c37b0] | (simp only [i64_w, i32_w]; rw [c37b0]) | rw [c37b1] | skip)
                          have H' := Aside0.mk H
                          clear H
                          go_wp2
                          go_meet
                          case rel => exact ⟨_, (x5_1), by9, H', ⟨by have := HK1.out; have := HJ4.out; have := HJ18.out; first | omega | exact Nat.le_refl _⟩, ⟨by (with_reducible repeat (first | refine blk_drewN ?_ _ | refine blk_drew ?_ | refine blk_alloc ?_ _)); exact BK132.out⟩, ⟨by (with_reducible repeat (first | refine blk_drewN ?_ _ | refine blk_drew ?_ | refine blk_alloc ?_ _)); exact BK134.out⟩, ⟨by repeat (first | (with_reducible first | exact HB.out | apply below_alloc | apply pw_below_drewN | apply below_drew1 | refine below_set ?_ GE132.out | refine below_set ?_ GE134.out) | exact HB.out)⟩⟩
                      case rest =>
                        clear HC34
                        try clear c1
                        try clear p1
                        try clear q1
                        try clear hx1
                        try clear c2
                        try clear p2
                        try clear c3
                        try clear c3b0
                        try clear c4
                        try clear c4b0
                        try clear p6
                        try clear c8
                        try clear c10
                        try clear c10b0
                        try clear c10b1
                        try clear c11
                        try clear c13
                        try clear c13b0
                        try clear c13b1
                        try clear p13
                        try clear q13
                        try clear hx13
                        try clear c14
                        try clear c16
                        try clear c18
                        try clear c20
                        try clear c20b0
                        try clear c20b1
                        try clear c22
                        try clear c24
                        try clear c25
                        try clear c27
                        try clear c29
                        try clear c31
                        try clear c33
                        try clear c35
                        try clear c37
                        try clear c37b0
                        try clear c37b1
                        try clear c38
                        try clear c38b0
                        try clear c39
                        try clear c39b0
                        try clear c39b1
                        try clear c40
                        try clear c40b0
                        try clear c40b1
                        try clear c41
                        try clear c43
                        try clear c45
                        try clear hcz12_0
                        try clear hcz12_1
                        try clear hcz12_2
                        try clear hcz12_3
                        try clear hcz15_0
                        try clear hcz15_1
                        try clear hcz15_2
                        try clear hcz15_3
                        try clear hcz17_0
                        try clear hcz17_1
                        try clear hcz17_2
                        try clear hcz17_3
                        try clear hcz26_0
                        try clear hcz26_1
                        try clear hcz26_2
                        try clear hcz26_3
                        try clear hcz28_0
                        try clear hcz28_1
                        try clear hcz28_2
                        try clear hcz28_3
                        try clear hcz30_0
                        try clear hcz30_1
                        try clear hcz30_2
                        try clear hcz30_3
                        try clear hcz32_0
                        try clear hcz32_1
                        try clear hcz32_2
                        try clear hcz32_3
                        try clear hcz36_0
                        try clear hcz36_1
                        try clear hcz36_2
                        try clear hcz36_3
                        try clear hcz42_0
                        try clear hcz42_1
                        try clear hcz42_2
                        try clear hcz42_3
                        try clear hcz44_0
                        try clear hcz44_1
                        try clear hcz44_2
                        try clear hcz44_3
                        try clear hcz46_0
                        try clear hcz46_1
                        try clear hcz46_2
                        try clear hcz46_3
                        try clear hcz6_0
                        try clear hcz6_1
                        try clear hcz9_0
                        try clear hcz9_1
                        try clear hcz9_2
                        try clear hcz9_3
                        try clear hfz12_0
                        try clear hfz12_1
                        try clear hfz12_2
                        try clear hfz12_3
                        try clear hfz15_0
                        try clear hfz15_1
                        try clear hfz15_2
                        try clear hfz15_3
                        try clear hfz17_0
                        try clear hfz17_1
                        try clear hfz17_2
                        try clear hfz17_3
                        try clear hfz26_0
                        try clear hfz26_1
                        try clear hfz26_2
                        try clear hfz26_3
                        try clear hfz28_0
                        try clear hfz28_1
                        try clear hfz28_2
                        try clear hfz28_3
                        try clear hfz30_0
                        try clear hfz30_1
                        try clear hfz30_2
                        try clear hfz30_3
                        try clear hfz32_0
                        try clear hfz32_1
                        try clear hfz32_2
                        try clear hfz32_3
                        try clear hfz36_0
                        try clear hfz36_1
                        try clear hfz36_2
                        try clear hfz36_3
                        try clear hfz42_0
                        try clear hfz42_1
                        try clear hfz42_2
                        try clear hfz42_3
                        try clear hfz44_0
                        try clear hfz44_1
                        try clear hfz44_2
                        try clear hfz44_3
                        try clear hfz46_0
                        try clear hfz46_1
                        try clear hfz46_2
                        try clear hfz46_3
                        try clear hfz6_0
                        try clear hfz6_1
                        try clear hfz9_0
                        try clear hfz9_1
                        try clear hfz9_2
                        try clear hfz9_3
                        try clear hx133_0
                        try clear hx133_1
                        try clear hx133_2
                        try clear hx133_3
                        try clear p1
                        try clear p13
                        try clear p133
                        try clear p2
                        try clear p6
                        try clear q1
                        try clear q13
                        try clear q133
                        obtain ⟨kq, x5_33, rfl, HA, HJ33, BK132, BK134, HB⟩ := hcut
                        cases kq with
                        | zero => exact absurd HA.out (by simp [spec_l10Segments.j3])
                        | succ kj33 =>
                          have H := HA.out
                          clear HA
                          simp only [spec_l10Segments.j3] at H
                          have H' := Aside0.mk H
                          clear H
                          have hnb47 := NB134_132.out
                          have hnc47 := NB132_134.out
                          have hcz48_0 : wc.cell? ⟨gb134, 0, none⟩ = some (.int .i64 ((rd_T111 l0_1 x6_1).f0)) := (blk_cell BK134.out 0).trans rfl
                          have hcz48_1 : wc.cell? ⟨gb134, 1, none⟩ = some (.int .i64 ((rd_T111 l0_1 x6_1).f1)) := (blk_cell BK134.out 1).trans rfl
                          have hcz48_2 : wc.cell? ⟨gb134, 2, none⟩ = some (.int .i64 ((rd_T111 l0_1 x6_1).f2)) := (blk_cell BK134.out 2).trans rfl
                          have hcz48_3 : wc.cell? ⟨gb134, 3, none⟩ = some (.string ((rd_T111 l0_1 x6_1).f3)) := (blk_cell BK134.out 3).trans rfl
                          have hfz48_0 := blk_frozen BK134.out 0
                          have hfz48_1 := blk_frozen BK134.out 1
                          have hfz48_2 := blk_frozen BK134.out 2
                          have hfz48_3 := blk_frozen BK134.out 3
                          go_wp2
                          go_loopg [4] kj33 (fun kq v4 w' => ∃ (x4_5 : Int), v4 = .int .i64 x4_5 ∧ Aside0 (spec_l10Segments.l1 kq x4_5 x5_33 x6_1 a0_0 l0_1 = some (r1, r2)) ∧ Aside0 (kq ≤ kj33) ∧ Aside0 (w'.heap[gb132]? = some (.cells #[.int .i64 a0_0, (.slice (some ad133) l0_1.length c0_1)] 29 (0, 0))) ∧ Aside0 (w'.heap[gb134]? = some (.cells #[.int .i64 ((rd_T111 l0_1 x6_1).f0), .int .i64 ((rd_T111 l0_1 x6_1).f1), .int .i64 ((rd_T111 l0_1 x6_1).f2), .string ((rd_T111 l0_1 x6_1).f3)] 111 (0, 0))) ∧ Aside0 (Below w.heap.size w w'))
                          case atStart => exact ⟨(wrap64 (((rd_T111 l0_1 x6_1).f1) + ((rd_T111 l0_1 x6_1).f2))), by9, H', ⟨Nat.le_refl _⟩, ⟨by (with_reducible repeat (first | refine blk_drewN ?_ _ | refine blk_drew ?_ | refine blk_alloc ?_ _)); exact BK132.out⟩, ⟨by (with_reducible repeat (first | refine blk_drewN ?_ _ | refine blk_drew ?_ | refine blk_alloc ?_ _)); exact BK134.out⟩, ⟨by repeat (first | (with_reducible first | exact HB.out | apply below_alloc | apply pw_below_drewN | apply below_drew1 | refine below_set ?_ GE132.out | refine below_set ?_ GE134.out) | exact HB.out)⟩⟩
                          case round =>
                            clear H'
                            try clear c1
                            try clear p1
                            try clear q1
                            try clear hx1
                            try clear c2
                            try clear p2
                            try clear c3
                            try clear c3b0
                            try clear c4
                            try clear c4b0
                            try clear p6
                            try clear c8
                            try clear c10
                            try clear c10b0
                            try clear c10b1
                            try clear c11
                            try clear c13
                            try clear c13b0
                            try clear c13b1
                            try clear p13
                            try clear q13
                            try clear hx13
                            try clear c14
                            try clear c16
                            try clear c18
                            try clear c20
                            try clear c20b0
                            try clear c20b1
                            try clear c22
                            try clear c24
                            try clear c25
                            try clear c27
                            try clear c29
                            try clear c31
                            try clear c33
                            try clear c35
                            try clear c37
                            try clear c37b0
                            try clear c37b1
                            try clear c38
                            try clear c38b0
                            try clear c39
                            try clear c39b0
                            try clear c39b1
                            try clear c40
                            try clear c40b0
                            try clear c40b1
                            try clear c41
                            try clear c43
                            try clear c45
                            try clear c47
                            try clear hcz12_0
                            try clear hcz12_1
                            try clear hcz12_2
                            try clear hcz12_3
                            try clear hcz15_0
                            try clear hcz15_1
                            try clear hcz15_2
                            try clear hcz15_3
                            try clear hcz17_0
                            try clear hcz17_1
                            try clear hcz17_2
                            try clear hcz17_3
                            try clear hcz26_0
                            try clear hcz26_1
                            try clear hcz26_2
                            try clear hcz26_3
                            try clear hcz28_0
                            try clear hcz28_1
                            try clear hcz28_2
                            try clear hcz28_3
                            try clear hcz30_0
                            try clear hcz30_1
                            try clear hcz30_2
                            try clear hcz30_3
                            try clear hcz32_0
                            try clear hcz32_1
                            try clear hcz32_2
                            try clear hcz32_3
                            try clear hcz36_0
                            try clear hcz36_1
                            try clear hcz36_2
                            try clear hcz36_3
                            try clear hcz42_0
                            try clear hcz42_1
                            try clear hcz42_2
                            try clear hcz42_3
                            try clear hcz44_0
                            try clear hcz44_1
                            try clear hcz44_2
                            try clear hcz44_3
                            try clear hcz46_0
                            try clear hcz46_1
                            try clear hcz46_2
                            try clear hcz46_3
                            try clear hcz48_0
                            try clear hcz48_1
                            try clear hcz48_2
                            try clear hcz48_3
                            try clear hcz6_0
                            try clear hcz6_1
                            try clear hcz9_0
                            try clear hcz9_1
                            try clear hcz9_2
                            try clear hcz9_3
                            try clear hfz12_0
                            try clear hfz12_1
                            try clear hfz12_2
                            try clear hfz12_3
                            try clear hfz15_0
                            try clear hfz15_1
                            try clear hfz15_2
                            try clear hfz15_3
                            try clear hfz17_0
                            try clear hfz17_1
                            try clear hfz17_2
                            try clear hfz17_3
                            try clear hfz26_0
                            try clear hfz26_1
                            try clear hfz26_2
                            try clear hfz26_3
                            try clear hfz28_0
                            try clear hfz28_1
                            try clear hfz28_2
                            try clear hfz28_3
                            try clear hfz30_0
                            try clear hfz30_1
                            try clear hfz30_2
                            try clear hfz30_3
                            try clear hfz32_0
                            try clear hfz32_1
                            try clear hfz32_2
                            try clear hfz32_3
                            try clear hfz36_0
                            try clear hfz36_1
                            try clear hfz36_2
                            try clear hfz36_3
                            try clear hfz42_0
                            try clear hfz42_1
                            try clear hfz42_2
                            try clear hfz42_3
                            try clear hfz44_0
                            try clear hfz44_1
                            try clear hfz44_2
                            try clear hfz44_3
                            try clear hfz46_0
                            try clear hfz46_1
                            try clear hfz46_2
                            try clear hfz46_3
                            try clear hfz48_0
                            try clear hfz48_1
                            try clear hfz48_2
                            try clear hfz48_3
                            try clear hfz6_0
                            try clear hfz6_1
                            try clear hfz9_0
                            try clear hfz9_1
                            try clear hfz9_2
                            try clear hfz9_3
                            try clear hx133_0
                            try clear hx133_1
                            try clear hx133_2
                            try clear hx133_3
                            try clear p1
                            try clear p13
                            try clear p133
                            try clear p2
                            try clear p6
                            try clear q1
                            try clear q13
                            try clear q133
                            obtain ⟨x4_5, rfl, HA, HK5, BK132, BK134, HB⟩ := hrel
                            cases gk with
                            | zero => exact absurd HA.out (by simp [spec_l10Segments.l1])
                            | succ k5 =>
                              have H := HA.out
                              clear HA
                              simp only [spec_l10Segments.l1] at H
                              by_cases c49 : (Int.tmod x4_5 256) = 0
                              · rw [if_pos c49] at H
                                have c49b0 : ((Int.tmod x4_5 256) == 0) = true := beq_iff_eq.mpr c49
                                have c49b1 : ((Int.tmod x4_5 256) != 0) = false := bne_eq_false_iff_eq.mpr c49
                                clear c49
                                have H' := Aside0.mk H
                                clear H
                                go_wp2
                                go_roundg k5
                                case measure => have := HK1.out; have := HJ4.out; have := HJ18.out; have := HJ33.out; have := HK5.out; omega
                                case rel => exact ⟨(x4_5), (x5_33), (wrap64 (x6_1 + 1)), by9, by9, by9, H', ⟨by have := HK1.out; have := HJ4.out; have := HJ18.out; have := HJ33.out; have := HK5.out; omega⟩, ⟨by (with_reducible repeat (first | refine blk_drewN ?_ _ | refine blk_drew ?_ | refine blk_alloc ?_ _)); exact BK132.out⟩, ⟨by repeat (first | (with_reducible first | exact HB.out | apply below_alloc | apply pw_below_drewN | apply below_drew1 | refine below_set ?_ GE132.out | refine below_set ?_ GE134.out) | exact HB.out)⟩⟩
                              · rw [if_neg c49] at H
                                have c49b0 : ((Int.tmod x4_5 256) == 0) = false := beq_eq_false_iff_ne.mpr c49
                                have c49b1 : ((Int.tmod x4_5 256) != 0) = true := bne_iff_ne.mpr c49
                                have H' := Aside0.mk H
                                clear H
                                go_wp2
                                go_roundg k5
                                case measure => have := HK1.out; have := HJ4.out; have := HJ18.out; have := HJ33.out; have := HK5.out; omega
                                case rel => exact ⟨(wrap64 (x4_5 + 1)), by9, H', ⟨by have := HK1.out; have := HJ4.out; have := HJ18.out; have := HJ33.out; have := HK5.out; omega⟩, ⟨by (with_reducible repeat (first | refine blk_drewN ?_ _ | refine blk_drew ?_ | refine blk_alloc ?_ _)); exact BK132.out⟩, ⟨by (with_reducible repeat (first | refine blk_drewN ?_ _ | refine blk_drew ?_ | refine blk_alloc ?_ _)); exact BK134.out⟩, ⟨by repeat (first | (with_reducible first | exact HB.out | apply below_alloc | apply pw_below_drewN | apply below_drew1 | refine below_set ?_ GE132.out | refine below_set ?_ GE134.out) | exact HB.out)⟩⟩
        · rw [if_neg c4] at H
          exact absurd H (by simp)
      · rw [if_neg c3] at H
        have c3b0 : decide (x6_1 < (l0_1.length : Int)) = false := decide_eq_false c3
        clear c3
        by_cases c50 : x5_1 = 0
        · rw [if_pos c50] at H
          have c50b0 : (x5_1 == 0) = true := beq_iff_eq.mpr c50
          have c50b1 : (x5_1 != 0) = false := bne_eq_false_iff_eq.mpr c50
          clear c50
          simp only [Option.some.injEq, Prod.mk.injEq] at H
          obtain ⟨rfl, rfl⟩ := H
          have hcz51_0 : wr.cell? ⟨gb132, 0, none⟩ = some (.int .i64 a0_0) := (blk_cell BK132.out 0).trans rfl
          have hcz51_1 : wr.cell? ⟨gb132, 1, none⟩ = some (.slice A0_1 l0_1.length c0_1) := (blk_cell BK132.out 1).trans rfl
          have hfz51_0 := blk_frozen BK132.out 0
          have hfz51_1 := blk_frozen BK132.out 1
          go_wp2
          go_ret2
          exact ⟨by first | rfl | (simp [errW_none, errW_some] <;> rfl) | (simp [*, errW_none, errW_some] <;> rfl), by repeat (first | (with_reducible first | exact HB.out | apply below_alloc | apply pw_below_drewN | apply below_drew1 | refine below_set ?_ GE132.out) | exact HB.out)⟩
        · rw [if_neg c50] at H
          have c50b0 : (x5_1 == 0) = false := beq_eq_false_iff_ne.mpr c50
          have c50b1 : (x5_1 != 0) = true := bne_iff_ne.mpr c50
          simp only [Option.some.injEq, Prod.mk.injEq] at H
          obtain ⟨rfl, rfl⟩ := H
          have hcz52_0 : wr.cell? ⟨gb132, 0, none⟩ = some (.int .i64 a0_0) := (blk_cell BK132.out 0).trans rfl
          have hcz52_1 : wr.cell? ⟨gb132, 1, none⟩ = some (.slice A0_1 l0_1.length c0_1) := (blk_cell BK132.out 1).trans rfl
          have hfz52_0 := blk_frozen BK132.out 0
          have hfz52_1 := blk_frozen BK132.out 1
          go_wp2
          go_ret2
          exact ⟨by first | rfl | (simp [errW_none, errW_some] <;> rfl) | (simp [*, errW_none, errW_some] <;> rfl), by repeat (first | (with_reducible first | exact HB.out | apply below_alloc | apply pw_below_drewN | apply below_drew1 | refine below_set ?_ GE132.out) | exact HB.out)⟩

end Go.Proofs.Ytigoabhkdipdeaa.PFnExactElfText
