/- Laid by a program of this session (patch_print.py) out of the translation: plain functions and what the calls do. No condition. -/
import Derived.Test.YtigoabhkdipdeaaPFnExactStoreAtx0
import Derived.Test.YtigoabhkdipdeaaPFnExactStoreAtx1
import Derived.Deep.QuietTactic
import Derived.BigQuiet
import Derived.StillTailTactics
namespace Go.Proofs.Ytigoabhkdipdeaa.PFnExactStoreAt
open Go.RowKit Go.Proofs.YtigoabhkdipdeaaW.PrintWords Go.Proofs.YtigoabhkdipdeaaW.PrintLast Go.Proofs.YtigoabhkdipdeaaW.PrintMore
attribute [local go_sem] max2_int min2_int max_two min_two max_three min_three max_four min_four   -- for this text's walks alone
set_option linter.unusedVariables false
set_option linter.unusedSimpArgs false

/-! ### spec_l01Size: function 92 -/
def spec_l01Size.f (a0 : Int) : Option (Bool) := if a0 = 1 then (some true) else (if a0 = 2 then (some true) else (if a0 = 4 then (some true) else (some (a0 == 8))))
set_option maxHeartbeats 8000000 in
set_option maxRecDepth 100000 in
theorem spec_l01Size.calls (a0 : Int) (r : Bool) (w : World) (h : spec_l01Size.f a0 = some r) :
  Calls Try.prog 92 #[.int .i64 a0] w fun e w' => e = .returned (.bool r) ∧ Drawn0 w w' := by
 have H : (if a0 = 1 then (some true) else (if a0 = 2 then (some true) else (if a0 = 4 then (some true) else (some (a0 == 8))))) = some r := h
 clear h
 by_cases c2 : a0 = 1
 ·rw [if_pos c2] at H
  have c2b0 : (a0 == 1) = true := beq_iff_eq.mpr c2
  have c2b1 : (a0 != 1) = false := bne_eq_false_iff_eq.mpr c2
  clear c2
  obtain rfl := Option.some.inj H
  go_enter Try.func92, Try.ntmps92
  go_wp2
  go_ret
  exact ⟨by first | rfl | (simp; done) | (simp [*]; done), by repeat (first | exact Drawn0.refl _ | apply Drawn0.step)⟩
 ·rw [if_neg c2] at H
  have c2b0 : (a0 == 1) = false := beq_eq_false_iff_ne.mpr c2
  have c2b1 : (a0 != 1) = true := bne_iff_ne.mpr c2
  by_cases c3 : a0 = 2
  ·rw [if_pos c3] at H
   have c3b0 : (a0 == 2) = true := beq_iff_eq.mpr c3
   have c3b1 : (a0 != 2) = false := bne_eq_false_iff_eq.mpr c3
   clear c3
   obtain rfl := Option.some.inj H
   go_enter Try.func92, Try.ntmps92
   go_wp2
   go_ret
   exact ⟨by first | rfl | (simp; done) | (simp [*]; done), by repeat (first | exact Drawn0.refl _ | apply Drawn0.step)⟩
  ·rw [if_neg c3] at H
   have c3b0 : (a0 == 2) = false := beq_eq_false_iff_ne.mpr c3
   have c3b1 : (a0 != 2) = true := bne_iff_ne.mpr c3
   by_cases c4 : a0 = 4
   ·rw [if_pos c4] at H
    have c4b0 : (a0 == 4) = true := beq_iff_eq.mpr c4
    have c4b1 : (a0 != 4) = false := bne_eq_false_iff_eq.mpr c4
    clear c4
    obtain rfl := Option.some.inj H
    go_enter Try.func92, Try.ntmps92
    go_wp2
    go_ret
    exact ⟨by first | rfl | (simp; done) | (simp [*]; done), by repeat (first | exact Drawn0.refl _ | apply Drawn0.step)⟩
   ·rw [if_neg c4] at H
    have c4b0 : (a0 == 4) = false := beq_eq_false_iff_ne.mpr c4
    have c4b1 : (a0 != 4) = true := bne_iff_ne.mpr c4
    obtain rfl := Option.some.inj H
    go_enter Try.func92, Try.ntmps92
    go_wp2
    go_ret
    exact ⟨by first | rfl | (simp; done) | (simp [*]; done), by repeat (first | exact Drawn0.refl _ | apply Drawn0.step)⟩

/-! ### spec_l01Little: function 152 -/
def spec_l01Little.l0 : Nat → Int → Int → List Int → Int → Option (ByteArray)
 | 0, _, _, _, _ => none
 | k + 1, x0, x1, x5, x6 => if x6 < x1 then (if 0 ≤ (IntKind.u64.wrap (wrap64 (8 * x6))) then (if x5.length < 140737488355328 then (spec_l01Little.l0 k x0 x1 (x5 ++ [(shr .u64 (IntKind.u64.wrap (x0)) (IntKind.u64.wrap (wrap64 (8 * x6)))) % 256]) (wrap64 (x6 + 1))) else (none)) else (none)) else (some (strOfNums x5))
def spec_l01Little.f (k : Nat) (a0 : Int) (a1 : Int) : Option (ByteArray) := spec_l01Little.l0 k a0 a1 (([] : List Int)) 0
theorem spec_l01Little.mono_l : ∀ k, (∀ y0 y1 y2 y3, LeO (spec_l01Little.l0 k y0 y1 y2 y3) (spec_l01Little.l0 (k + 1) y0 y1 y2 y3))
 | 0 => fun _ _ _ _ r h => by simp [spec_l01Little.l0] at h
 | k + 1 => by
  have ih0 := spec_l01Little.mono_l k
  ·intro y0 y1 y2 y3
   unfold spec_l01Little.l0
   repeat' first
   | (with_reducible exact ih0 _ _ _ _)
   | (with_reducible exact LeO.refl _)
   | (with_reducible exact LeO.none _)
   | (with_reducible refine LeO.ite ?_ ?_)
   | (with_reducible refine LeO.bind ?_ (fun _ => ?_))
   | refine LeO.ite ?_ ?_
   | refine LeO.bind ?_ (fun _ => ?_)
theorem spec_l01Little.mono : ∀ a0 a1 k, LeO (spec_l01Little.f k a0 a1) (spec_l01Little.f (k + 1) a0 a1) := by
 intro a0 a1 k
 have ih0 := spec_l01Little.mono_l k
 unfold spec_l01Little.f
 repeat' first
   | (with_reducible exact ih0 _ _ _ _)
   | (with_reducible exact LeO.refl _)
   | (with_reducible exact LeO.none _)
   | (with_reducible refine LeO.ite ?_ ?_)
   | (with_reducible refine LeO.bind ?_ (fun _ => ?_))
   | refine LeO.ite ?_ ?_
   | refine LeO.bind ?_ (fun _ => ?_)
set_option maxHeartbeats 8000000 in
set_option maxRecDepth 100000 in
theorem spec_l01Little.calls (k : Nat) (a0 : Int) (a1 : Int) (r : ByteArray) (w : World) (h : spec_l01Little.f k a0 a1 = some r) :
  Calls Try.prog 152 #[.int .i64 a0, .int .i64 a1] w fun e w' => e = .returned (.string r) ∧ Below w.heap.size w w' := by
 have HB := Aside0.mk (Below.refl w.heap.size w)
 have H : (spec_l01Little.l0 k a0 a1 (([] : List Int)) 0) = some r := h
 clear h
 obtain ⟨y114, hy114⟩ : ∃ y_ : List Int, y_ = (([] : List Int)) := ⟨_, rfl⟩
 replace H : (spec_l01Little.l0 k a0 a1 y114 0) = some r := by first | (rw [hy114]; with_reducible exact H) | (have H2_ := (Option.bind_some _ _).symm.trans H; rw [hy114]; with_reducible exact H2_) | (have H2_ := (Option.bind_some _ _).symm.trans H; with_reducible exact H2_) | with_reducible exact H | (rw [hy114]; exact H) | exact H
 have Ny114 := Aside0.mk hy114
 clear hy114
 have H' := Aside0.mk H
 clear H
 go_enter Try.func152, Try.ntmps152
 go_wp2_with (first | ((with_reducible refine gate_dst (N := 7) rfl ?_); refine Kd.R_lit (Kd.int .u8) _ 5 ?hg (N := 7) ?hd (xs := ([] : List Int)) (inner := []) (ok := fun _ => True) (okp := fun _ => True) ?hr ?hp (fun _ hk => hk) trivial (Below.refl _ _) (Nat.le_refl _) (by simp) ?_; (case hd => rfl); (case hg => rfl); (case hr => first | (go_simp; done) | (go_simp; rfl)); (case hp => exact (Reps.none _ _)); intro v115 w3 ho4 hb hg_ hnew_; clear hg_ hnew_; (first | rw [← Ny114.out] at ho4 | (simp only [Int.reduceToNat] at ho4; rw [← Ny114.out] at ho4)); have n0_ := Aside0.mk (Kd.R_lower ho4 (below_size by3)); have n1_ := Aside0.mk (below_step by3 hb); clear HB; have HO116 := n0_; have HB := n1_; clear n0_ n1_; clear hb ho4))
 go_loopg [5, 6] k (fun kq v5 v6 w' => ∃ (x5_1 : List Int) (x6_1 : Int), v6 = .int .i64 x6_1 ∧ Aside0 (spec_l01Little.l0 kq a0 a1 x5_1 x6_1 = some r) ∧ Aside0 (kq ≤ k) ∧ Aside0 (Kd.R (Kd.int .u8) 5 w' w.heap.size (fun _ => True) v5 x5_1) ∧ Aside0 (Below w.heap.size w w'))
 case atStart => exact ⟨(y114), (0), by7, H', ⟨Nat.le_refl _⟩, ⟨by (with_reducible repeat (first | apply Kd.R_alloc | apply Kd.R_drewN | apply Kd.R_drew)); exact HO116.out⟩, ⟨by repeat (first | (with_reducible first | exact HB.out | apply below_alloc | apply pw_below_drewN | apply below_drew1) | exact HB.out)⟩⟩
 case round =>
  clear H'
  obtain ⟨x5_1, x6_1, rfl, HA, HK1, HO_5, HB⟩ := hrel
  cases gk with
  | zero => exact absurd HA.out (by simp [spec_l01Little.l0])
  | succ k1 =>
   have H := HA.out
   clear HA
   simp only [spec_l01Little.l0] at H
   by_cases c5 : x6_1 < a1
   ·rw [if_pos c5] at H
    have c5b0 : decide (x6_1 < a1) = true := decide_eq_true c5
    clear c5
    obtain ⟨ji6, hji6⟩ : ∃ j_ : Int, (IntKind.u64.wrap (wrap64 (8 * x6_1))) = j_ := ⟨_, rfl⟩
    replace H : (if 0 ≤ (ji6) then (if x5_1.length < 140737488355328 then (spec_l01Little.l0 k1 a0 a1 (x5_1 ++ [(shr .u64 (IntKind.u64.wrap (a0)) (ji6)) % 256]) (wrap64 (x6_1 + 1))) else (none)) else (none)) = some r := by first | (rw [hji6] at H; exact H) | (simp only [hji6] at H ⊢; exact H)
    by_cases c7 : 0 ≤ (ji6)
    ·rw [if_pos c7] at H
     have c7b0 := eq_true c7
     have c7b1 : decide (0 ≤ (ji6)) = true := decide_eq_true c7
     clear c7
     obtain ⟨ji8, hji8⟩ : ∃ j_ : Int, (shr .u64 (IntKind.u64.wrap (a0)) (ji6)) = j_ := ⟨_, rfl⟩
     replace H : (if x5_1.length < 140737488355328 then (spec_l01Little.l0 k1 a0 a1 (x5_1 ++ [(ji8) % 256]) (wrap64 (x6_1 + 1))) else (none)) = some r := by first | (rw [hji8] at H; exact H) | (simp only [hji8] at H ⊢; exact H)
     have hji8_ : ((IntKind.u64.wrap (a0)) / 2 ^ min (ji6).toNat 64) = ji8 := hji8
     have hji8z : (ji6) ≤ 64 → ((IntKind.u64.wrap (a0)) / 2 ^ (ji6).toNat) = ji8 := shr_small hji8
     by_cases c9 : x5_1.length < 140737488355328
     ·rw [if_pos c9] at H
      have LMc9 := Aside0.mk c9
      clear c9
      obtain ⟨y117, hy117⟩ : ∃ y_ : List Int, y_ = (x5_1 ++ [(ji8) % 256]) := ⟨_, rfl⟩
      replace H : (spec_l01Little.l0 k1 a0 a1 y117 (wrap64 (x6_1 + 1))) = some r := by first | (rw [hy117]; with_reducible exact H) | (have H2_ := (Option.bind_some _ _).symm.trans H; rw [hy117]; with_reducible exact H2_) | (have H2_ := (Option.bind_some _ _).symm.trans H; with_reducible exact H2_) | with_reducible exact H | (rw [hy117]; exact H) | exact H
      have Ny117 := Aside0.mk hy117
      clear hy117
      have H' := Aside0.mk H
      clear H
      go_wp2_with (first | ((with_reducible refine gate_builtin (b := .append) (xs := #[.tmp 13, .tmp 21]) rfl ?_); at_builtin; refine Kd.R_append (Kd.int .u8) (w0 := w) w.heap.size rfl (.tmp 13) (.tmp 21) 87 5 (.int .u8 0) 1 rfl Try.underlying87 info5 rfl (by decide) (by omega) u5 x5_1 ((ji8) % 256) [.int .u8 ((ji8) % 256)] (fun _ => True) (fun _ => False) rfl rfl ?aP (fun _ hk => hk.elim) ?aF ?aO ?aB ?aS ?aL ?_; (case aP => exact rfl); (case aB => exact by3); (case aF => exact (fun _ _ => trivial)); (case aO => exact (by (with_reducible repeat (first | apply Kd.R_alloc | apply Kd.R_drewN | apply Kd.R_drew)); exact HO_5.out)); (case aS => exact (below_size by3)); (case aL => have := LMc9.out; omega); intro v118 w10 ho hb hg hat; rw [← Ny117.out] at ho; have n0_ := Aside0.mk (hb); have n1_ := Aside0.mk (ho); clear HB; clear HO_5; have HB := n0_; have HO119 := n1_; clear n0_ n1_; clear ho hb hg hat))
      go_roundg k1
      case measure => have := HK1.out; omega
      case rel => exact ⟨(y117), (wrap64 (x6_1 + 1)), by7, H', ⟨by have := HK1.out; omega⟩, ⟨by (with_reducible repeat (first | apply Kd.R_alloc | apply Kd.R_drewN | apply Kd.R_drew)); exact HO119.out⟩, ⟨by repeat (first | (with_reducible first | exact HB.out | apply below_alloc | apply pw_below_drewN | apply below_drew1) | exact HB.out)⟩⟩
     ·rw [if_neg c9] at H
      exact absurd H (by simp)
    ·rw [if_neg c7] at H
     exact absurd H (by simp)
   ·rw [if_neg c5] at H
    have c5b0 : decide (x6_1 < a1) = false := decide_eq_false c5
    clear c5
    obtain rfl := Option.some.inj H
    have hcv11 := own_string (P := Try.prog) Try.underlying87 Try.underlying5 Try.underlying9 (Kd.own_of_R HO_5.out)
    go_wp2
    go_ret
    exact ⟨by first | rfl | (simp [errW_none, errW_some] <;> rfl) | (simp [*, errW_none, errW_some] <;> rfl), by repeat (first | (with_reducible first | exact HB.out | apply below_alloc | apply pw_below_drewN | apply below_drew1) | exact HB.out)⟩

/-! ### spec_l02Find: function 228 -/
def spec_l02Find.l0 : Nat → Int → Int → List (S153) → Option (Int)
 | 0, _, _, _ => none
 | k + 1, x1, x5, x121000 => if x5 < (x121000.length : Int) then (if 0 ≤ x5 then (if ((rd_T153 x121000 x5).f0) ≤ x1 then (if (wrap64 (x1 - ((rd_T153 x121000 x5).f0))) < 256 then (some x5) else (spec_l02Find.l0 k x1 (wrap64 (x5 + 1)) x121000)) else (spec_l02Find.l0 k x1 (wrap64 (x5 + 1)) x121000)) else (none)) else (some (-1))
def spec_l02Find.f (k : Nat) (l0_0 : List (S153)) (a1 : Int) : Option (Int) := spec_l02Find.l0 k a1 0 l0_0
theorem spec_l02Find.mono_l : ∀ k, (∀ y0 y1 y2, LeO (spec_l02Find.l0 k y0 y1 y2) (spec_l02Find.l0 (k + 1) y0 y1 y2))
 | 0 => fun _ _ _ r h => by simp [spec_l02Find.l0] at h
 | k + 1 => by
  have ih0 := spec_l02Find.mono_l k
  ·intro y0 y1 y2
   unfold spec_l02Find.l0
   repeat' first
   | (with_reducible exact ih0 _ _ _)
   | (with_reducible exact LeO.refl _)
   | (with_reducible exact LeO.none _)
   | (with_reducible refine LeO.ite ?_ ?_)
   | (with_reducible refine LeO.bind ?_ (fun _ => ?_))
   | refine LeO.ite ?_ ?_
   | refine LeO.bind ?_ (fun _ => ?_)
theorem spec_l02Find.mono : ∀ a0 a1 k, LeO (spec_l02Find.f k a0 a1) (spec_l02Find.f (k + 1) a0 a1) := by
 intro a0 a1 k
 have ih0 := spec_l02Find.mono_l k
 unfold spec_l02Find.f
 repeat' first
   | (with_reducible exact ih0 _ _ _)
   | (with_reducible exact LeO.refl _)
   | (with_reducible exact LeO.none _)
   | (with_reducible refine LeO.ite ?_ ?_)
   | (with_reducible refine LeO.bind ?_ (fun _ => ?_))
   | refine LeO.ite ?_ ?_
   | refine LeO.bind ?_ (fun _ => ?_)
set_option maxHeartbeats 8000000 in
set_option maxRecDepth 100000 in
theorem spec_l02Find.calls (k : Nat) (A0_0 : Option Addr) (c0_0 : Nat) (l0_0 : List (S153)) (a1 : Int) (r : Int) (w : World) (hr0_0 : Kd.C k153 w A0_0 l0_0.length l0_0) (hc0_0 : l0_0.length ≤ c0_0) (h : spec_l02Find.f k l0_0 a1 = some r) :
  Calls Try.prog 228 #[.agg #[.slice A0_0 l0_0.length c0_0], .int .i64 a1] w fun e w' => e = .returned (.int .i64 r) ∧ Below w.heap.size w w' := by
 have hu45 := Try.underlying45
 have HR0_0 := Aside0.mk hr0_0
 have HC0_0 := Aside0.mk hc0_0
 clear hr0_0 hc0_0
 have HB := Aside0.mk (Below.refl w.heap.size w)
 have H : (spec_l02Find.l0 k a1 0 l0_0) = some r := h
 clear h
 have H' := Aside0.mk H
 clear H
 go_enter Try.func228, Try.ntmps228
 go_wp2_with (first | ((with_reducible refine gate_dst (N := 2) rfl ?_); refine box_event ?hg (N := 2) ?hd (cs := #[.slice A0_0 l0_0.length c0_0]) (t := 45) ?hr ?_; (case hd => rfl); (case hg => rfl); (case hr => first | (go_simp; done) | (go_simp; rfl)); intro gb120 hg w3 hbox hb; have n0_ := Aside0.mk (below_step by3 hb); have n1_ := Aside0.mk (hbox); have n2_ := Aside0.mk ((by1 : w.heap.size ≤ gb120)); have n3_ := Aside0.mk ((by1 : w.heap.size ≤ gb120)); clear HB; have HB := n0_; have BK120 := n1_; have GW120 := n2_; have GE120 := n3_; clear n0_ n1_ n2_ n3_; clear hb hbox hg))
 go_loopg [5] k (fun kq v5 w' => ∃ (x5_1 : Int), v5 = .int .i64 x5_1 ∧ Aside0 (spec_l02Find.l0 kq a1 x5_1 l0_0 = some r) ∧ Aside0 (kq ≤ k) ∧ Aside0 (w'.heap[gb120]? = some (.cells #[(.slice A0_0 l0_0.length c0_0)] 45 (0, 0))) ∧ Aside0 (Below w.heap.size w w'))
 case atStart => exact ⟨(0), by7, H', ⟨Nat.le_refl _⟩, ⟨by (with_reducible repeat (first | refine blk_drewN ?_ _ | refine blk_drew ?_ | refine blk_alloc ?_ _)); exact BK120.out⟩, ⟨by repeat (first | (with_reducible first | exact HB.out | apply below_alloc | apply pw_below_drewN | apply below_drew1 | refine below_set ?_ GE120.out) | exact HB.out)⟩⟩
 case round =>
  clear H'
  (try clear c2)
  obtain ⟨x5_1, rfl, HA, HK1, BK120, HB⟩ := hrel
  cases gk with
  | zero => exact absurd HA.out (by simp [spec_l02Find.l0])
  | succ k1 =>
   have H := HA.out
   clear HA
   simp only [spec_l02Find.l0] at H
   by_cases c4 : x5_1 < (l0_0.length : Int)
   ·rw [if_pos c4] at H
    have c4b0 : decide (x5_1 < (l0_0.length : Int)) = true := decide_eq_true c4
    clear c4
    by_cases c5 : 0 ≤ x5_1
    ·rw [if_pos c5] at H
     have c5b0 : decide (0 ≤ x5_1) = true := decide_eq_true c5
     clear c5
     by_cases c6 : ((rd_T153 l0_0 x5_1).f0) ≤ a1
     ·rw [if_pos c6] at H
      have c6b0 : decide (((rd_T153 l0_0 x5_1).f0) ≤ a1) = true := decide_eq_true c6
      clear c6
      by_cases c7 : (wrap64 (a1 - ((rd_T153 l0_0 x5_1).f0))) < 256
      ·rw [if_pos c7] at H
       have c7b0 : decide ((wrap64 (a1 - ((rd_T153 l0_0 x5_1).f0))) < 256) = true := decide_eq_true c7
       clear c7
       obtain rfl := Option.some.inj H
       have hcz8_0 := cz BK120.out 0 (.slice A0_0 l0_0.length c0_0)
       have hfz8_0 := blk_frozen BK120.out 0
       have p121 : 0 ≤ (x5_1 : Int) := of_decide_eq_true by4
       have q121 : x5_1 < (l0_0.length : Int) := of_decide_eq_true by4
       obtain ⟨ad121, e121, hx121_0, hx121_1, hx121_2⟩ := at_T153 HR0_0.out x5_1 p121 q121
       cases e121
       replace hx121_0 := (HB.out.cell (World.block_lt_of_cell? w _ hx121_0)).trans hx121_0
       replace hx121_1 := (HB.out.cell (World.block_lt_of_cell? w _ hx121_1)).trans hx121_1
       replace hx121_2 := (HB.out.cell (World.block_lt_of_cell? w _ hx121_2)).trans hx121_2
       replace p121 := eq_true p121
       replace q121 := eq_true q121
       have p122 : 0 ≤ (x5_1 : Int) := of_decide_eq_true by4
       have q122 : x5_1 < (l0_0.length : Int) := of_decide_eq_true by4
       obtain ⟨ad122, e122, hx122_0, hx122_1, hx122_2⟩ := at_T153 HR0_0.out x5_1 p122 q122
       obtain rfl : ad121 = ad122 := (by injection e122)
       replace hx122_0 := (HB.out.cell (World.block_lt_of_cell? w _ hx122_0)).trans hx122_0
       replace hx122_1 := (HB.out.cell (World.block_lt_of_cell? w _ hx122_1)).trans hx122_1
       replace hx122_2 := (HB.out.cell (World.block_lt_of_cell? w _ hx122_2)).trans hx122_2
       replace p122 := eq_true p122
       replace q122 := eq_true q122
       go_wp2
       go_ret
       exact ⟨by first | rfl | (simp [errW_none, errW_some] <;> rfl) | (simp [*, errW_none, errW_some] <;> rfl), by repeat (first | (with_reducible first | exact HB.out | apply below_alloc | apply pw_below_drewN | apply below_drew1 | refine below_set ?_ GE120.out) | exact HB.out)⟩
      ·rw [if_neg c7] at H
       have c7b0 : decide ((wrap64 (a1 - ((rd_T153 l0_0 x5_1).f0))) < 256) = false := decide_eq_false c7
       clear c7
       have H' := Aside0.mk H
       clear H
       have hcz9_0 := cz BK120.out 0 (.slice A0_0 l0_0.length c0_0)
       have hfz9_0 := blk_frozen BK120.out 0
       have p121 : 0 ≤ (x5_1 : Int) := of_decide_eq_true by4
       have q121 : x5_1 < (l0_0.length : Int) := of_decide_eq_true by4
       obtain ⟨ad121, e121, hx121_0, hx121_1, hx121_2⟩ := at_T153 HR0_0.out x5_1 p121 q121
       cases e121
       replace hx121_0 := (HB.out.cell (World.block_lt_of_cell? w _ hx121_0)).trans hx121_0
       replace hx121_1 := (HB.out.cell (World.block_lt_of_cell? w _ hx121_1)).trans hx121_1
       replace hx121_2 := (HB.out.cell (World.block_lt_of_cell? w _ hx121_2)).trans hx121_2
       replace p121 := eq_true p121
       replace q121 := eq_true q121
       have p122 : 0 ≤ (x5_1 : Int) := of_decide_eq_true by4
       have q122 : x5_1 < (l0_0.length : Int) := of_decide_eq_true by4
       obtain ⟨ad122, e122, hx122_0, hx122_1, hx122_2⟩ := at_T153 HR0_0.out x5_1 p122 q122
       obtain rfl : ad121 = ad122 := (by injection e122)
       replace hx122_0 := (HB.out.cell (World.block_lt_of_cell? w _ hx122_0)).trans hx122_0
       replace hx122_1 := (HB.out.cell (World.block_lt_of_cell? w _ hx122_1)).trans hx122_1
       replace hx122_2 := (HB.out.cell (World.block_lt_of_cell? w _ hx122_2)).trans hx122_2
       replace p122 := eq_true p122
       replace q122 := eq_true q122
       go_wp2
       go_roundg k1
       case measure => have := HK1.out; omega
       case rel => exact ⟨(wrap64 (x5_1 + 1)), by7, H', ⟨by have := HK1.out; omega⟩, ⟨by (with_reducible repeat (first | refine blk_drewN ?_ _ | refine blk_drew ?_ | refine blk_alloc ?_ _)); exact BK120.out⟩, ⟨by repeat (first | (with_reducible first | exact HB.out | apply below_alloc | apply pw_below_drewN | apply below_drew1 | refine below_set ?_ GE120.out) | exact HB.out)⟩⟩
     ·rw [if_neg c6] at H
      have c6b0 : decide (((rd_T153 l0_0 x5_1).f0) ≤ a1) = false := decide_eq_false c6
      clear c6
      have H' := Aside0.mk H
      clear H
      have hcz10_0 := cz BK120.out 0 (.slice A0_0 l0_0.length c0_0)
      have hfz10_0 := blk_frozen BK120.out 0
      have p121 : 0 ≤ (x5_1 : Int) := of_decide_eq_true by4
      have q121 : x5_1 < (l0_0.length : Int) := of_decide_eq_true by4
      obtain ⟨ad121, e121, hx121_0, hx121_1, hx121_2⟩ := at_T153 HR0_0.out x5_1 p121 q121
      cases e121
      replace hx121_0 := (HB.out.cell (World.block_lt_of_cell? w _ hx121_0)).trans hx121_0
      replace hx121_1 := (HB.out.cell (World.block_lt_of_cell? w _ hx121_1)).trans hx121_1
      replace hx121_2 := (HB.out.cell (World.block_lt_of_cell? w _ hx121_2)).trans hx121_2
      replace p121 := eq_true p121
      replace q121 := eq_true q121
      go_wp2
      go_roundg k1
      case measure => have := HK1.out; omega
      case rel => exact ⟨(wrap64 (x5_1 + 1)), by7, H', ⟨by have := HK1.out; omega⟩, ⟨by (with_reducible repeat (first | refine blk_drewN ?_ _ | refine blk_drew ?_ | refine blk_alloc ?_ _)); exact BK120.out⟩, ⟨by repeat (first | (with_reducible first | exact HB.out | apply below_alloc | apply pw_below_drewN | apply below_drew1 | refine below_set ?_ GE120.out) | exact HB.out)⟩⟩
    ·rw [if_neg c5] at H
     exact absurd H (by simp)
   ·rw [if_neg c4] at H
    have c4b0 : decide (x5_1 < (l0_0.length : Int)) = false := decide_eq_false c4
    clear c4
    obtain rfl := Option.some.inj H
    have hcz11_0 := cz BK120.out 0 (.slice A0_0 l0_0.length c0_0)
    have hfz11_0 := blk_frozen BK120.out 0
    go_wp2
    go_ret
    exact ⟨by first | rfl | (simp [errW_none, errW_some] <;> rfl) | (simp [*, errW_none, errW_some] <;> rfl), by repeat (first | (with_reducible first | exact HB.out | apply below_alloc | apply pw_below_drewN | apply below_drew1 | refine below_set ?_ GE120.out) | exact HB.out)⟩

/-! ### spec_l02Fault: function 164 -/
def spec_l02Fault.l0 : Nat → Int → Int → Int → Int → List (S153) → Option (Int)
 | 0, _, _, _, _, _ => none
 | k + 1, x1, x2, x3, x9, x124000 => if x9 < x2 then ((spec_l01In.f x1 (wrap64 (-x2)) 65535).bind fun t124 => (if t124 = true then ((spec_l02Find.f k x124000 (wrap64 (x1 + x9))).bind fun t125 => (if t125 < 0 then (some 13) else (if 0 ≤ t125 then (if t125 < (x124000.length : Int) then (if (Go.bits .and .i64 ((rd_T153 x124000 t125).f1) x3) = 0 then (some 14) else (spec_l02Fault.l0 k x1 x2 x3 (wrap64 (x9 + 1)) x124000)) else (none)) else (none)))) else (some 13))) else (some 0)
def spec_l02Fault.f (k : Nat) (l0_0 : List (S153)) (a1 : Int) (a2 : Int) (a3 : Int) : Option (Int) := spec_l02Fault.l0 k a1 a2 a3 0 l0_0
theorem spec_l02Fault.mono_l : ∀ k, (∀ y0 y1 y2 y3 y4, LeO (spec_l02Fault.l0 k y0 y1 y2 y3 y4) (spec_l02Fault.l0 (k + 1) y0 y1 y2 y3 y4))
 | 0 => fun _ _ _ _ _ r h => by simp [spec_l02Fault.l0] at h
 | k + 1 => by
  have ih0 := spec_l02Fault.mono_l k
  ·intro y0 y1 y2 y3 y4
   unfold spec_l02Fault.l0
   repeat' first
   | (with_reducible exact ih0 _ _ _ _ _)
   | (with_reducible exact spec_l02Find.mono _ _ _)
   | (with_reducible exact LeO.refl _)
   | (with_reducible exact LeO.none _)
   | (with_reducible refine LeO.ite ?_ ?_)
   | (with_reducible refine LeO.bind ?_ (fun _ => ?_))
   | refine LeO.ite ?_ ?_
   | refine LeO.bind ?_ (fun _ => ?_)
theorem spec_l02Fault.mono : ∀ a0 a1 a2 a3 k, LeO (spec_l02Fault.f k a0 a1 a2 a3) (spec_l02Fault.f (k + 1) a0 a1 a2 a3) := by
 intro a0 a1 a2 a3 k
 have ih0 := spec_l02Fault.mono_l k
 unfold spec_l02Fault.f
 repeat' first
   | (with_reducible exact ih0 _ _ _ _ _)
   | (with_reducible exact spec_l02Find.mono _ _ _)
   | (with_reducible exact LeO.refl _)
   | (with_reducible exact LeO.none _)
   | (with_reducible refine LeO.ite ?_ ?_)
   | (with_reducible refine LeO.bind ?_ (fun _ => ?_))
   | refine LeO.ite ?_ ?_
   | refine LeO.bind ?_ (fun _ => ?_)
set_option maxHeartbeats 8000000 in
set_option maxRecDepth 100000 in
theorem spec_l02Fault.calls (k : Nat) (A0_0 : Option Addr) (c0_0 : Nat) (l0_0 : List (S153)) (a1 : Int) (a2 : Int) (a3 : Int) (r : Int) (w : World) (hr0_0 : Kd.C k153 w A0_0 l0_0.length l0_0) (hc0_0 : l0_0.length ≤ c0_0) (h : spec_l02Fault.f k l0_0 a1 a2 a3 = some r) :
  Calls Try.prog 164 #[.agg #[.slice A0_0 l0_0.length c0_0], .int .i64 a1, .int .i64 a2, .int .i64 a3] w fun e w' => e = .returned (.int .i64 r) ∧ Below w.heap.size w w' := by
 have hu45 := Try.underlying45
 have HR0_0 := Aside0.mk hr0_0
 have HC0_0 := Aside0.mk hc0_0
 clear hr0_0 hc0_0
 have HB := Aside0.mk (Below.refl w.heap.size w)
 have H : (spec_l02Fault.l0 k a1 a2 a3 0 l0_0) = some r := h
 clear h
 have H' := Aside0.mk H
 clear H
 go_enter Try.func164, Try.ntmps164
 go_wp2_with (first | ((with_reducible refine gate_dst (N := 4) rfl ?_); refine box_event ?hg (N := 4) ?hd (cs := #[.slice A0_0 l0_0.length c0_0]) (t := 45) ?hr ?_; (case hd => rfl); (case hg => rfl); (case hr => first | (go_simp; done) | (go_simp; rfl)); intro gb123 hg w5 hbox hb; have n0_ := Aside0.mk (below_step by3 hb); have n1_ := Aside0.mk (hbox); have n2_ := Aside0.mk ((by1 : w.heap.size ≤ gb123)); have n3_ := Aside0.mk ((by1 : w.heap.size ≤ gb123)); clear HB; have HB := n0_; have BK123 := n1_; have GW123 := n2_; have GE123 := n3_; clear n0_ n1_ n2_ n3_; clear hb hbox hg))
 go_loopg [9] k (fun kq v9 w' => ∃ (x9_1 : Int), v9 = .int .i64 x9_1 ∧ Aside0 (spec_l02Fault.l0 kq a1 a2 a3 x9_1 l0_0 = some r) ∧ Aside0 (kq ≤ k) ∧ Aside0 (w'.heap[gb123]? = some (.cells #[(.slice A0_0 l0_0.length c0_0)] 45 (0, 0))) ∧ Aside0 (Below w.heap.size w w'))
 case atStart => exact ⟨(0), by7, H', ⟨Nat.le_refl _⟩, ⟨by (with_reducible repeat (first | refine blk_drewN ?_ _ | refine blk_drew ?_ | refine blk_alloc ?_ _)); exact BK123.out⟩, ⟨by repeat (first | (with_reducible first | exact HB.out | apply below_alloc | apply pw_below_drewN | apply below_drew1 | refine below_set ?_ GE123.out) | exact HB.out)⟩⟩
 case round =>
  clear H'
  obtain ⟨x9_1, rfl, HA, HK1, BK123, HB⟩ := hrel
  cases gk with
  | zero => exact absurd HA.out (by simp [spec_l02Fault.l0])
  | succ k1 =>
   have H := HA.out
   clear HA
   simp only [spec_l02Fault.l0] at H
   by_cases c6 : x9_1 < a2
   ·rw [if_pos c6] at H
    have c6b0 : decide (x9_1 < a2) = true := decide_eq_true c6
    clear c6
    replace H := Option.bind_eq_some_iff.mp H
    obtain ⟨t124, A70, H⟩ := H
    replace H : (if t124 = true then ((spec_l02Find.f k1 l0_0 (wrap64 (a1 + x9_1))).bind fun t125 => (if t125 < 0 then (some 13) else (if 0 ≤ t125 then (if t125 < (l0_0.length : Int) then (if (Go.bits .and .i64 ((rd_T153 l0_0 t125).f1) a3) = 0 then (some 14) else (spec_l02Fault.l0 k1 a1 a2 a3 (wrap64 (x9_1 + 1)) l0_0)) else (none)) else (none)))) else (some 13)) = some r := H
    have A7 := Aside0.mk A70
    clear A70
    by_cases c8 : t124 = true
    ·subst c8
     have H1 : ((spec_l02Find.f k1 l0_0 (wrap64 (a1 + x9_1))).bind fun t125 => (if t125 < 0 then (some 13) else (if 0 ≤ t125 then (if t125 < (l0_0.length : Int) then (if (Go.bits .and .i64 ((rd_T153 l0_0 t125).f1) a3) = 0 then (some 14) else (spec_l02Fault.l0 k1 a1 a2 a3 (wrap64 (x9_1 + 1)) l0_0)) else (none)) else (none)))) = some r := by rw [if_pos rfl] at H; exact H
     clear H
     have H := H1
     clear H1
     replace H := Option.bind_eq_some_iff.mp H
     obtain ⟨t125, A90, H⟩ := H
     replace H : (if t125 < 0 then (some 13) else (if 0 ≤ t125 then (if t125 < (l0_0.length : Int) then (if (Go.bits .and .i64 ((rd_T153 l0_0 t125).f1) a3) = 0 then (some 14) else (spec_l02Fault.l0 k1 a1 a2 a3 (wrap64 (x9_1 + 1)) l0_0)) else (none)) else (none))) = some r := H
     have A9 := Aside0.mk A90
     clear A90
     by_cases c10 : t125 < 0
     ·rw [if_pos c10] at H
      have c10b0 : decide (t125 < 0) = true := decide_eq_true c10
      clear c10
      obtain rfl := Option.some.inj H
      go_wp2_with (first | ((with_reducible refine gate_callee (f := 81) rfl ?_); refine goesL_ (some 19) rfl rfl Try.func81 by2 rfl #[.int .i64 a1, .int .i64 (wrap64 (-a2)), .int .i64 65535] rfl by0 ?_; (with_reducible refine (spec_l01In.calls a1 (wrap64 (-a2)) 65535 true _ A7.out).mono ?_); rintro e w' ⟨rfl, ⟨nd, rfl⟩⟩; refine ⟨_, rfl, ?_⟩; have hcz11_0 := cz BK123.out 0 (.slice A0_0 l0_0.length c0_0); have hfz11_0 := blk_frozen BK123.out 0) | ((with_reducible refine gate_callee (f := 228) rfl ?_); refine goesL_ (some 25) rfl rfl Try.func228 by2 rfl #[.agg #[.slice A0_0 l0_0.length c0_0], .int .i64 (wrap64 (a1 + x9_1))] rfl by0 ?_; (with_reducible refine (spec_l02Find.calls k1 _ _ l0_0 (wrap64 (a1 + x9_1)) t125 _ ?side1 ?side2 A9.out).mono ?_); (case side1 => repeat (first | exact (Kd.C_below HR0_0.out by39) | (with_reducible refine Kd.C_alloc ?_ _) | (with_reducible refine Kd.C_drewN ?_ _) | (with_reducible refine Kd.C_drew ?_))); (case side2 => exact HC0_0.out); rintro e w12 ⟨rfl, hb⟩; refine ⟨_, rfl, ?_⟩; have n0_ := Aside0.mk (blk_below (g := gb123) (o := .cells #[.slice A0_0 l0_0.length c0_0] 45 (0, 0)) by123 hb); have n1_ := Aside0.mk (below_step by39 hb); clear BK123; clear HB; have BK123 := n0_; have HB := n1_; clear n0_ n1_; (try clear hb); (try clear hb2); (try clear hk); (try clear hi)))
      go_ret
      exact ⟨by first | rfl | (simp [errW_none, errW_some] <;> rfl) | (simp [*, errW_none, errW_some] <;> rfl), by repeat (first | (with_reducible first | exact HB.out | apply below_alloc | apply pw_below_drewN | apply below_drew1 | refine below_set ?_ GE123.out) | exact HB.out)⟩
     ·rw [if_neg c10] at H
      have c10b0 : decide (t125 < 0) = false := decide_eq_false c10
      clear c10
      by_cases c13 : 0 ≤ t125
      ·rw [if_pos c13] at H
       have c13b0 : decide (0 ≤ t125) = true := decide_eq_true c13
       clear c13
       by_cases c14 : t125 < (l0_0.length : Int)
       ·rw [if_pos c14] at H
        have c14b0 : decide (t125 < (l0_0.length : Int)) = true := decide_eq_true c14
        clear c14
        by_cases c15 : (Go.bits .and .i64 ((rd_T153 l0_0 t125).f1) a3) = 0
        ·rw [if_pos c15] at H
         have c15b0 : ((Go.bits .and .i64 ((rd_T153 l0_0 t125).f1) a3) == 0) = true := beq_iff_eq.mpr c15
         have c15b1 : ((Go.bits .and .i64 ((rd_T153 l0_0 t125).f1) a3) != 0) = false := bne_eq_false_iff_eq.mpr c15
         clear c15
         obtain rfl := Option.some.inj H
         go_wp2_with (first | ((with_reducible refine gate_callee (f := 81) rfl ?_); refine goesL_ (some 19) rfl rfl Try.func81 by2 rfl #[.int .i64 a1, .int .i64 (wrap64 (-a2)), .int .i64 65535] rfl by0 ?_; (with_reducible refine (spec_l01In.calls a1 (wrap64 (-a2)) 65535 true _ A7.out).mono ?_); rintro e w' ⟨rfl, ⟨nd, rfl⟩⟩; refine ⟨_, rfl, ?_⟩; have hcz16_0 := cz BK123.out 0 (.slice A0_0 l0_0.length c0_0); have hfz16_0 := blk_frozen BK123.out 0) | ((with_reducible refine gate_callee (f := 228) rfl ?_); refine goesL_ (some 25) rfl rfl Try.func228 by2 rfl #[.agg #[.slice A0_0 l0_0.length c0_0], .int .i64 (wrap64 (a1 + x9_1))] rfl by0 ?_; (with_reducible refine (spec_l02Find.calls k1 _ _ l0_0 (wrap64 (a1 + x9_1)) t125 _ ?side1 ?side2 A9.out).mono ?_); (case side1 => repeat (first | exact (Kd.C_below HR0_0.out by39) | (with_reducible refine Kd.C_alloc ?_ _) | (with_reducible refine Kd.C_drewN ?_ _) | (with_reducible refine Kd.C_drew ?_))); (case side2 => exact HC0_0.out); rintro e w17 ⟨rfl, hb⟩; refine ⟨_, rfl, ?_⟩; have n0_ := Aside0.mk (blk_below (g := gb123) (o := .cells #[.slice A0_0 l0_0.length c0_0] 45 (0, 0)) by123 hb); have n1_ := Aside0.mk (below_step by39 hb); clear BK123; clear HB; have BK123 := n0_; have HB := n1_; clear n0_ n1_; (try clear hb); (try clear hb2); (try clear hk); (try clear hi); have hcz18_0 := cz BK123.out 0 (.slice A0_0 l0_0.length c0_0); have hfz18_0 := blk_frozen BK123.out 0; have p126 : 0 ≤ (t125 : Int) := of_decide_eq_true by4; have q126 : t125 < (l0_0.length : Int) := of_decide_eq_true by4; obtain ⟨ad126, e126, hx126_0, hx126_1, hx126_2⟩ := at_T153 HR0_0.out t125 p126 q126; cases e126; replace hx126_0 := (HB.out.cell (World.block_lt_of_cell? w _ hx126_0)).trans hx126_0; replace hx126_1 := (HB.out.cell (World.block_lt_of_cell? w _ hx126_1)).trans hx126_1; replace hx126_2 := (HB.out.cell (World.block_lt_of_cell? w _ hx126_2)).trans hx126_2; replace p126 := eq_true p126; replace q126 := eq_true q126))
         go_ret
         exact ⟨by first | rfl | (simp [errW_none, errW_some] <;> rfl) | (simp [*, errW_none, errW_some] <;> rfl), by repeat (first | (with_reducible first | exact HB.out | apply below_alloc | apply pw_below_drewN | apply below_drew1 | refine below_set ?_ GE123.out) | exact HB.out)⟩
        ·rw [if_neg c15] at H
         have c15b0 : ((Go.bits .and .i64 ((rd_T153 l0_0 t125).f1) a3) == 0) = false := beq_eq_false_iff_ne.mpr c15
         have c15b1 : ((Go.bits .and .i64 ((rd_T153 l0_0 t125).f1) a3) != 0) = true := bne_iff_ne.mpr c15
         have H' := Aside0.mk H
         clear H
         go_wp2_with (first | ((with_reducible refine gate_callee (f := 81) rfl ?_); refine goesL_ (some 19) rfl rfl Try.func81 by2 rfl #[.int .i64 a1, .int .i64 (wrap64 (-a2)), .int .i64 65535] rfl by0 ?_; (with_reducible refine (spec_l01In.calls a1 (wrap64 (-a2)) 65535 true _ A7.out).mono ?_); rintro e w' ⟨rfl, ⟨nd, rfl⟩⟩; refine ⟨_, rfl, ?_⟩; have hcz19_0 := cz BK123.out 0 (.slice A0_0 l0_0.length c0_0); have hfz19_0 := blk_frozen BK123.out 0) | ((with_reducible refine gate_callee (f := 228) rfl ?_); refine goesL_ (some 25) rfl rfl Try.func228 by2 rfl #[.agg #[.slice A0_0 l0_0.length c0_0], .int .i64 (wrap64 (a1 + x9_1))] rfl by0 ?_; (with_reducible refine (spec_l02Find.calls k1 _ _ l0_0 (wrap64 (a1 + x9_1)) t125 _ ?side1 ?side2 A9.out).mono ?_); (case side1 => repeat (first | exact (Kd.C_below HR0_0.out by39) | (with_reducible refine Kd.C_alloc ?_ _) | (with_reducible refine Kd.C_drewN ?_ _) | (with_reducible refine Kd.C_drew ?_))); (case side2 => exact HC0_0.out); rintro e w20 ⟨rfl, hb⟩; refine ⟨_, rfl, ?_⟩; have n0_ := Aside0.mk (blk_below (g := gb123) (o := .cells #[.slice A0_0 l0_0.length c0_0] 45 (0, 0)) by123 hb); have n1_ := Aside0.mk (below_step by39 hb); clear BK123; clear HB; have BK123 := n0_; have HB := n1_; clear n0_ n1_; (try clear hb); (try clear hb2); (try clear hk); (try clear hi); have hcz21_0 := cz BK123.out 0 (.slice A0_0 l0_0.length c0_0); have hfz21_0 := blk_frozen BK123.out 0; have p126 : 0 ≤ (t125 : Int) := of_decide_eq_true by4; have q126 : t125 < (l0_0.length : Int) := of_decide_eq_true by4; obtain ⟨ad126, e126, hx126_0, hx126_1, hx126_2⟩ := at_T153 HR0_0.out t125 p126 q126; cases e126; replace hx126_0 := (HB.out.cell (World.block_lt_of_cell? w _ hx126_0)).trans hx126_0; replace hx126_1 := (HB.out.cell (World.block_lt_of_cell? w _ hx126_1)).trans hx126_1; replace hx126_2 := (HB.out.cell (World.block_lt_of_cell? w _ hx126_2)).trans hx126_2; replace p126 := eq_true p126; replace q126 := eq_true q126))
         go_roundg k1
         case measure => have := HK1.out; omega
         case rel => exact ⟨(wrap64 (x9_1 + 1)), by7, H', ⟨by have := HK1.out; omega⟩, ⟨by (with_reducible repeat (first | refine blk_drewN ?_ _ | refine blk_drew ?_ | refine blk_alloc ?_ _)); exact BK123.out⟩, ⟨by repeat (first | (with_reducible first | exact HB.out | apply below_alloc | apply pw_below_drewN | apply below_drew1 | refine below_set ?_ GE123.out) | exact HB.out)⟩⟩
       ·rw [if_neg c14] at H
        exact absurd H (by simp)
      ·rw [if_neg c13] at H
       exact absurd H (by simp)
    ·replace c8 := Bool.eq_false_iff.mpr c8
     subst c8
     have H1 : (some 13) = some r := by rw [if_neg (show ¬ (false = true) by decide)] at H; exact H
     clear H
     have H := H1
     clear H1
     obtain rfl := Option.some.inj H
     go_wp2_with (first | ((with_reducible refine gate_callee (f := 81) rfl ?_); refine goesL_ (some 19) rfl rfl Try.func81 by2 rfl #[.int .i64 a1, .int .i64 (wrap64 (-a2)), .int .i64 65535] rfl by0 ?_; (with_reducible refine (spec_l01In.calls a1 (wrap64 (-a2)) 65535 false _ A7.out).mono ?_); rintro e w' ⟨rfl, ⟨nd, rfl⟩⟩; refine ⟨_, rfl, ?_⟩))
     go_ret
     exact ⟨by first | rfl | (simp [errW_none, errW_some] <;> rfl) | (simp [*, errW_none, errW_some] <;> rfl), by repeat (first | (with_reducible first | exact HB.out | apply below_alloc | apply pw_below_drewN | apply below_drew1 | refine below_set ?_ GE123.out) | exact HB.out)⟩
   ·rw [if_neg c6] at H
    have c6b0 : decide (x9_1 < a2) = false := decide_eq_false c6
    clear c6
    obtain rfl := Option.some.inj H
    go_wp2
    go_ret
    exact ⟨by first | rfl | (simp [errW_none, errW_some] <;> rfl) | (simp [*, errW_none, errW_some] <;> rfl), by repeat (first | (with_reducible first | exact HB.out | apply below_alloc | apply pw_below_drewN | apply below_drew1 | refine below_set ?_ GE123.out) | exact HB.out)⟩

/-! ### spec_l02Own: function 94 -/
def spec_l02Own.f (l0_0 : List (S153)) : Option ((List (S153))) := (some (([] : List (S153)) : List (S153))).bind fun y129 => (if y129.length + l0_0.length < 4398046511104 then (some (y129 ++ l0_0)) else (none))
set_option maxHeartbeats 8000000 in
set_option maxRecDepth 100000 in
theorem spec_l02Own.calls (A0_0 : Option Addr) (c0_0 : Nat) (l0_0 : List (S153)) (r : List (S153)) (w : World) (hr0_0 : Kd.C k153 w A0_0 l0_0.length l0_0) (hc0_0 : l0_0.length ≤ c0_0) (h : spec_l02Own.f l0_0 = some r) :
  Calls Try.prog 94 #[.agg #[.slice A0_0 l0_0.length c0_0]] w fun e w' => ∃ v0_ : Value, e = .returned (.agg #[v0_]) ∧ Kd.R k153 153 w' w.heap.size (fun _ => True) v0_ r ∧ Below w.heap.size w w' := by
 have hu45 := Try.underlying45
 have HR0_0 := Aside0.mk hr0_0
 have HC0_0 := Aside0.mk hc0_0
 clear hr0_0 hc0_0
 have HB := Aside0.mk (Below.refl w.heap.size w)
 have H : ((some (([] : List (S153)) : List (S153))).bind fun y129 => (if y129.length + l0_0.length < 4398046511104 then (some (y129 ++ l0_0)) else (none))) = some r := h
 clear h
 obtain ⟨y129, hy129⟩ : ∃ y_ : List (S153), y_ = (([] : List (S153))) := ⟨_, rfl⟩
 replace H : (if y129.length + l0_0.length < 4398046511104 then (some (y129 ++ l0_0)) else (none)) = some r := by first | (rw [hy129]; with_reducible exact H) | (have H2_ := (Option.bind_some _ _).symm.trans H; rw [hy129]; with_reducible exact H2_) | (have H2_ := (Option.bind_some _ _).symm.trans H; with_reducible exact H2_) | with_reducible exact H | (rw [hy129]; exact H) | exact H
 have Ny129 := Aside0.mk hy129
 clear hy129
 by_cases c2 : y129.length + l0_0.length < 4398046511104
 ·rw [if_pos c2] at H
  have LMc2 := Aside0.mk c2
  clear c2
  obtain ⟨y132, hy132⟩ : ∃ y_ : List (S153), y_ = (y129 ++ l0_0) := ⟨_, rfl⟩
  replace H : (some y132) = some r := by first | (rw [hy132]; with_reducible exact H) | (have H2_ := (Option.bind_some _ _).symm.trans H; rw [hy132]; with_reducible exact H2_) | (have H2_ := (Option.bind_some _ _).symm.trans H; with_reducible exact H2_) | with_reducible exact H | (rw [hy132]; exact H) | exact H
  have Ny132 := Aside0.mk hy132
  clear hy132
  obtain rfl := Option.some.inj H
  go_enter Try.func94, Try.ntmps94
  go_wp2_with (first | ((with_reducible refine gate_dst (N := 1) rfl ?_); refine box_event ?hg (N := 1) ?hd (cs := #[.slice A0_0 l0_0.length c0_0]) (t := 45) ?hr ?_; (case hd => rfl); (case hg => rfl); (case hr => first | (go_simp; done) | (go_simp; rfl)); intro gb127 hg w3 hbox hb; have n0_ := Aside0.mk (below_step by3 hb); have n1_ := Aside0.mk (hbox); have n2_ := Aside0.mk ((by1 : w.heap.size ≤ gb127)); have n3_ := Aside0.mk ((by1 : w.heap.size ≤ gb127)); clear HB; have HB := n0_; have BK127 := n1_; have GW127 := n2_; have GE127 := n3_; clear n0_ n1_ n2_ n3_; clear hb hbox hg) | ((with_reducible refine gate_dst (N := 2) rfl ?_); refine box_event ?hg (N := 2) ?hd (cs := #[.slice none 0 0]) (t := 45) ?hr ?_; (case hd => rfl); (case hg => rfl); (case hr => first | (go_simp; done) | (go_simp; rfl)); intro gb128 hg w4 hbox hb; have n0_ := Aside0.mk (blk_below (g := gb127) (o := .cells #[.slice A0_0 l0_0.length c0_0] 45 (0, 0)) by124 hb); have n1_ := Aside0.mk (below_step (by repeat (first | (with_reducible first | exact HB.out | apply below_alloc | apply pw_below_drewN | apply below_drew1 | refine below_set ?_ GE127.out) | exact HB.out)) hb); have n2_ := Aside0.mk (hbox); have n3_ := Aside0.mk ((by114 : w.heap.size ≤ gb128)); have n4_ := Aside0.mk ((by114 : w.heap.size ≤ gb128)); have n5_ := Aside0.mk ((by rw [hg]; exact Nat.ne_of_lt (blk_lt (g := gb127) (o := .cells #[.slice A0_0 l0_0.length c0_0] 45 (0, 0)) by124) : gb127 ≠ gb128)); have n6_ := Aside0.mk ((by rw [hg]; exact Nat.ne_of_gt (blk_lt (g := gb127) (o := .cells #[.slice A0_0 l0_0.length c0_0] 45 (0, 0)) by124) : gb128 ≠ gb127)); clear BK127; clear HB; have BK127 := n0_; have HB := n1_; have BK128 := n2_; have GW128 := n3_; have GE128 := n4_; have NB127_128 := n5_; have NB128_127 := n6_; clear n0_ n1_ n2_ n3_ n4_ n5_ n6_; clear hb hbox hg) | ((with_reducible refine gate_dst (N := 3) rfl ?_); refine Kd.R_lit k153 _ 153 ?hg (N := 3) ?hd (xs := ([] : List (S153))) (inner := []) (ok := fun _ => True) (okp := fun _ => True) ?hr ?hp (fun _ hk => hk) trivial (Below.refl _ _) (Nat.le_refl _) (by simp) ?_; (case hd => rfl); (case hg => rfl); (case hr => first | (go_simp; done) | (go_simp; rfl)); (case hp => exact (Reps.none _ _)); intro v130 w5 ho6 hb hg_ hnew_; clear hg_ hnew_; (first | rw [← Ny129.out] at ho6 | (simp only [Int.reduceToNat] at ho6; rw [← Ny129.out] at ho6)); have n0_ := Aside0.mk (Kd.R_lower ho6 (below_size by54)); have n1_ := Aside0.mk (blk_below (g := gb127) (o := .cells #[.slice A0_0 l0_0.length c0_0] 45 (0, 0)) by124 hb); have n2_ := Aside0.mk (blk_below (g := gb128) (o := .cells #[.slice none 0 0] 45 (0, 0)) by132 hb); have n3_ := Aside0.mk (below_step by54 hb); clear BK127; clear BK128; clear HB; have HO131 := n0_; have BK127 := n1_; have BK128 := n2_; have HB := n3_; clear n0_ n1_ n2_ n3_; clear hb ho6; have hnb7 := NB127_128.out; have hnc7 := NB128_127.out; have hcz8_0 := cz BK127.out 0 (.slice A0_0 l0_0.length c0_0); have hfz8_0 := blk_frozen BK127.out 0) | ((with_reducible refine gate_builtin (b := .append) (xs := #[.tmp 3, .tmp 5]) rfl ?_); at_builtin; refine Kd.R_append_rows k153 (w0 := w) w.heap.size rfl (.tmp 3) (.tmp 5) 43 153 (.agg #[(.int .i64 0), (.int .i64 0), (.string ⟨#[]⟩)]) 32 rfl Try.underlying43 info153 rfl (by decide) (by omega) v130 y129 l0_0 _ _ _ (fun _ => True) (fun _ => False) rfl rfl ?aO ?aR (fun _ _ h => h) (fun _ h => h.elim) ?aF ?aB ?aS ?aL ?_; (case aR => repeat (first | exact (Kd.C_below HR0_0.out HB.out) | (with_reducible refine Kd.C_alloc ?_ _) | (with_reducible refine Kd.C_drewN ?_ _) | (with_reducible refine Kd.C_drew ?_))); (case aB => exact by54); (case aF => exact (fun _ _ => trivial)); (case aO => exact (by (with_reducible repeat (first | apply Kd.R_alloc | apply Kd.R_drewN | apply Kd.R_drew)); exact HO131.out)); (case aS => exact (below_size by54)); (case aL => have := LMc2.out; omega); intro v133 w9 ho hb hg hat; rw [← Ny132.out] at ho; have n0_ := Aside0.mk (blk_grown (g := gb127) (o := .cells #[.slice A0_0 l0_0.length c0_0] 45 (0, 0)) by124 hg (Kd.R_ne HO131.out BK127.out (by decide))); have n1_ := Aside0.mk (blk_grown (g := gb128) (o := .cells #[.slice none 0 0] 45 (0, 0)) by132 hg (Kd.R_ne HO131.out BK128.out (by decide))); have n2_ := Aside0.mk (hb); have n3_ := Aside0.mk (ho); clear BK127; clear BK128; clear HB; clear HO131; have BK127 := n0_; have BK128 := n1_; have HB := n2_; have HO134 := n3_; clear n0_ n1_ n2_ n3_; clear ho hb hg hat; obtain ⟨Ao10, co10, eo10⟩ := Kd.R_slice HO134.out; subst eo10; have hcz11_0 := cz BK128.out 0 (.slice none 0 0); have hfz11_0 := blk_frozen BK128.out 0))
  refine bodyPost_ret (results_cell_row rfl _ _ gb128 45 #[.slice Ao10 y132.length co10] (0, 0) _ rfl (by (with_reducible repeat (first | refine blk_drewN ?_ _ | refine blk_drew ?_ | refine blk_alloc ?_ _)); refine blk_put (cs := #[.slice none 0 0]) ?_ 0 _ rfl; (with_reducible repeat (first | refine blk_drewN ?_ _ | refine blk_drew ?_ | refine blk_alloc ?_ _)); exact BK128.out) Try.underlying45 rfl (by kernel_rfl)) rfl ?_
  exact ⟨_, by first | rfl | (simp [errW_none, errW_some] <;> rfl) | (simp [*, errW_none, errW_some] <;> rfl), by (with_reducible repeat (first | apply Kd.R_alloc | apply Kd.R_drewN | apply Kd.R_drew)); exact Kd.R_mono (Kd.R_far (p := ⟨gb128, 0, none⟩) (Kd.R_types HO134.out BK128.out (by decide)) (fun _ hk => hk.2) (.slice Ao10 y132.length co10)) (fun _ hk => trivial), by repeat (first | (with_reducible first | exact HB.out | apply below_alloc | apply pw_below_drewN | apply below_drew1 | refine below_set ?_ GE127.out | refine below_set ?_ GE128.out) | exact HB.out)⟩
 ·rw [if_neg c2] at H
  exact absurd H (by simp)

/-! ### spec_l02Put: function 165 -/
-- @import Derived.Deep.QuietTactic
-- @import Derived.BigQuiet
-- @import Derived.StillTailTactics
def spec_l02Put.l0 : Nat → Int → ByteArray → List (S153) → Option (List (S153))
 | 0, _, _, _ => none
 | k + 1, x1, x2, o => if (x2.size : Int) > 0 then ((spec_l02Find.f k o x1).bind fun i => (if (0 ≤ i ∧ i < (o.length : Int)) ∧ (0 ≤ x1 ∧ x1 ≤ 65535) ∧ ((rd_T153 o i).f0 = x1 - ((x1.toNat % 256 : Nat) : Int)) ∧ ((rd_T153 o i).f2).size = 256 ∧ x2.size ≤ 65536 then (spec_l02Put.l0 k (x1 + ((min x2.size (256 - x1.toNat % 256) : Nat) : Int)) (x2.extract (min x2.size (256 - x1.toNat % 256)) x2.size) (o.set i.toNat (⟨(rd_T153 o i).f0, (rd_T153 o i).f1, (((rd_T153 o i).f2).extract 0 (x1.toNat % 256) ++ x2.extract 0 (min x2.size (256 - x1.toNat % 256))) ++ ((rd_T153 o i).f2).extract (x1.toNat % 256 + min x2.size (256 - x1.toNat % 256)) 256⟩ : S153))) else none)) else some o
def spec_l02Put.f (k : Nat) (l0_0 : List (S153)) (a1 : Int) (a2 : ByteArray) : Option ((List (S153))) := (spec_l02Own.f l0_0).bind fun t137 => (spec_l02Put.l0 k a1 a2 t137)
theorem spec_l02Put.mono_l : ∀ k, (∀ y0 y1 y2, LeO (spec_l02Put.l0 k y0 y1 y2) (spec_l02Put.l0 (k + 1) y0 y1 y2))
 | 0 => fun _ _ _ r h => by simp [spec_l02Put.l0] at h
 | k + 1 => by
  have ih0 := spec_l02Put.mono_l k
  ·intro y0 y1 y2
   unfold spec_l02Put.l0
   repeat' first
   | (with_reducible exact ih0 _ _ _)
   | (with_reducible exact spec_l02Find.mono _ _ _)
   | (with_reducible exact LeO.refl _)
   | (with_reducible exact LeO.none _)
   | (with_reducible refine LeO.ite ?_ ?_)
   | (with_reducible refine LeO.bind ?_ (fun _ => ?_))
   | refine LeO.ite ?_ ?_
   | refine LeO.bind ?_ (fun _ => ?_)
theorem spec_l02Put.mono : ∀ a0 a1 a2 k, LeO (spec_l02Put.f k a0 a1 a2) (spec_l02Put.f (k + 1) a0 a1 a2) := by
 intro a0 a1 a2 k
 have ih0 := spec_l02Put.mono_l k
 unfold spec_l02Put.f
 repeat' first
   | (with_reducible exact ih0 _ _ _)
   | (with_reducible exact spec_l02Find.mono _ _ _)
   | (with_reducible exact LeO.refl _)
   | (with_reducible exact LeO.none _)
   | (with_reducible refine LeO.ite ?_ ?_)
   | (with_reducible refine LeO.bind ?_ (fun _ => ?_))
   | refine LeO.ite ?_ ?_
   | refine LeO.bind ?_ (fun _ => ?_)
set_option maxHeartbeats 8000000 in
set_option maxRecDepth 100000 in
theorem spec_l02Put.calls (k : Nat) (A0_0 : Option Addr) (c0_0 : Nat) (l0_0 : List (S153)) (a1 : Int) (a2 : ByteArray) (r : List (S153)) (w : World) (hr0_0 : Kd.C k153 w A0_0 l0_0.length l0_0) (hc0_0 : l0_0.length ≤ c0_0) (h : spec_l02Put.f k l0_0 a1 a2 = some r) :
  Calls Try.prog 165 #[.agg #[.slice A0_0 l0_0.length c0_0], .int .i64 a1, .string a2] w fun e w' => ∃ v0_ : Value, e = .returned (.agg #[v0_]) ∧ Kd.R k153 153 w' w.heap.size (fun _ => True) v0_ r ∧ Below w.heap.size w w' := by
 have hu := Try.underlying45
 have HR0_0 := Aside0.mk hr0_0
 have HC0_0 := Aside0.mk hc0_0
 clear hr0_0 hc0_0
 have HB := Aside0.mk (Below.refl w.heap.size w)
 have H : ((spec_l02Own.f l0_0).bind fun t137 => (spec_l02Put.l0 k a1 a2 t137)) = some r := h
 clear h
 replace H := Option.bind_eq_some_iff.mp H
 obtain ⟨t137, A40, H⟩ := H
 replace H : (spec_l02Put.l0 k a1 a2 t137) = some r := H
 have A4 := Aside0.mk A40
 clear A40
 have H' := Aside0.mk H
 clear H
 go_enter Try.func165, Try.ntmps165
 go_wp2_with (first | ((with_reducible refine gate_dst (N := 3) rfl ?_); refine box_event ?hg (N := 3) ?hd (cs := #[.slice A0_0 l0_0.length c0_0]) (t := 45) ?hr ?_; (case hd => rfl); (case hg => rfl); (case hr => first | (go_simp; done) | (go_simp; rfl)); intro gb135 hg w5 hbox hb; have n0_ := Aside0.mk (below_step by3 hb); have n1_ := Aside0.mk (hbox); have n2_ := Aside0.mk ((by1 : w.heap.size ≤ gb135)); have n3_ := Aside0.mk ((by1 : w.heap.size ≤ gb135)); clear HB; have HB := n0_; have BK135 := n1_; have GW135 := n2_; have GE135 := n3_; clear n0_ n1_ n2_ n3_; clear hb hbox hg) | ((with_reducible refine gate_dst (N := 6) rfl ?_); refine box_event ?hg (N := 6) ?hd (cs := #[.slice none 0 0]) (t := 45) ?hr ?_; (case hd => rfl); (case hg => rfl); (case hr => first | (go_simp; done) | (go_simp; rfl)); intro gb136 hg w6 hbox hb; have n0_ := Aside0.mk (blk_below (g := gb135) (o := .cells #[.slice A0_0 l0_0.length c0_0] 45 (0, 0)) by18 hb); have n1_ := Aside0.mk (below_step by67 hb); have n2_ := Aside0.mk (hbox); have n3_ := Aside0.mk ((by41 : w.heap.size ≤ gb136)); have n4_ := Aside0.mk ((by41 : w.heap.size ≤ gb136)); have n5_ := Aside0.mk ((by61 : gb135 ≠ gb136)); have n6_ := Aside0.mk ((by rw [hg]; exact Nat.ne_of_gt (blk_lt (g := gb135) (o := .cells #[.slice A0_0 l0_0.length c0_0] 45 (0, 0)) by18) : gb136 ≠ gb135)); clear BK135; clear HB; have BK135 := n0_; have HB := n1_; have BK136 := n2_; have GW136 := n3_; have GE136 := n4_; have NB135_136 := n5_; have NB136_135 := n6_; clear n0_ n1_ n2_ n3_ n4_ n5_ n6_; clear hb hbox hg; have hnb7 := NB135_136.out; have hnc7 := NB136_135.out; have hcz8_0 := cz BK135.out 0 (.slice A0_0 l0_0.length c0_0); have hfz8_0 := blk_frozen BK135.out 0) | ((with_reducible refine gate_callee (f := 94) rfl ?_); refine goesL_ (some 12) rfl rfl Try.func94 by2 rfl #[.agg #[.slice A0_0 l0_0.length c0_0]] rfl by0 ?_; (with_reducible refine (spec_l02Own.calls _ _ l0_0 t137 _ ?side1 ?side2 A4.out).mono ?_); (case side1 => repeat (first | exact (Kd.C_below HR0_0.out HB.out) | (with_reducible refine Kd.C_alloc ?_ _) | (with_reducible refine Kd.C_drewN ?_ _) | (with_reducible refine Kd.C_drew ?_))); (case side2 => exact HC0_0.out); rintro e w9 ⟨v138, rfl, ho0, hb⟩; refine ⟨_, rfl, ?_⟩; have n0_ := Aside0.mk (Kd.R_lower ho0 (below_size by11)); have n1_ := Aside0.mk (blk_below (g := gb135) (o := .cells #[.slice A0_0 l0_0.length c0_0] 45 (0, 0)) by18 hb); have n2_ := Aside0.mk (blk_below (g := gb136) (o := .cells #[.slice none 0 0] 45 (0, 0)) by32 hb); have n3_ := Aside0.mk (below_step by11 hb); clear BK135; clear BK136; clear HB; have HO139 := n0_; have BK135 := n1_; have BK136 := n2_; have HB := n3_; clear n0_ n1_ n2_ n3_; (try clear hb); (try clear hb2); (try clear hk); (try clear hi); (try clear ho0); obtain ⟨Ao10, co10, eo10⟩ := Kd.R_slice HO139.out; subst eo10; have hcz11_0 := cz BK135.out 0 (.slice A0_0 l0_0.length c0_0); have hfz11_0 := blk_frozen BK135.out 0))
 go_loopg [1, 2] k (fun kq v1 v2 w' => ∃ (x1_1 : Int) (x2_1 : ByteArray) (x136000_1 : List (S153)) (u136000 : Value), v1 = .int .i64 x1_1 ∧ v2 = .string x2_1 ∧ Aside0 (spec_l02Put.l0 kq x1_1 x2_1 x136000_1 = some r) ∧ Aside0 (kq ≤ k) ∧ Aside0 (Kd.R k153 153 w' w.heap.size (fun _ => True) u136000 x136000_1) ∧ Aside0 (w'.heap[gb135]? = some (.cells #[u136000] 45 (0, 0))) ∧ Aside0 (w'.heap[gb136]? = some (.cells #[(.slice none 0 0)] 45 (0, 0))) ∧ Aside0 (Below w.heap.size w w'))
 case atStart => exact ⟨(a1), (a2), (t137), (.slice Ao10 t137.length co10), by7, by7, H', ⟨Nat.le_refl _⟩, ⟨by (with_reducible repeat (first | apply Kd.R_alloc | apply Kd.R_drewN | apply Kd.R_drew)); exact Kd.R_mono (Kd.R_far (p := ⟨gb135, 0, none⟩) (Kd.R_types HO139.out BK135.out (by decide)) (fun _ hk => hk.2) (.slice Ao10 t137.length co10)) (fun _ hk => trivial)⟩, ⟨by (with_reducible repeat (first | refine blk_drewN ?_ _ | refine blk_drew ?_ | refine blk_alloc ?_ _)); refine blk_put (cs := #[.slice A0_0 l0_0.length c0_0]) ?_ 0 _ rfl; (with_reducible repeat (first | refine blk_drewN ?_ _ | refine blk_drew ?_ | refine blk_alloc ?_ _)); exact BK135.out⟩, ⟨by (with_reducible repeat (first | refine blk_drewN ?_ _ | refine blk_drew ?_ | refine blk_alloc ?_ _)); refine blk_far ?_ NB136_135.out _; (with_reducible repeat (first | refine blk_drewN ?_ _ | refine blk_drew ?_ | refine blk_alloc ?_ _)); exact BK136.out⟩, ⟨by repeat (first | (with_reducible first | exact HB.out | apply below_alloc | apply pw_below_drewN | apply below_drew1 | refine below_set ?_ GE135.out | refine below_set ?_ GE136.out) | exact HB.out)⟩⟩
 case round =>
  clear H'
  (try clear c7); (try clear c9); (try clear hcz11_0); (try clear hcz8_0); (try clear hfz11_0); (try clear hfz8_0)
  obtain ⟨x1_1, x2_1, x136000_1, u136000, rfl, rfl, HA, HK1, HO_136000, BK135, BK136, HB⟩ := hrel
  cases gk with
  | zero => exact absurd HA.out (by simp [spec_l02Put.l0])
  | succ k1 =>
   have H := HA.out
   clear HA
   simp only [spec_l02Put.l0] at H
   by_cases c12 : (x2_1.size : Int) > 0
   ·rw [if_pos c12] at H
    have c12b0 : decide (0 < (x2_1.size : Int)) = true := decide_eq_true c12
    have c12b1 : decide (0 < x2_1.size) = true := decide_eq_true (by omega)
    replace H := Option.bind_eq_some_iff.mp H
    obtain ⟨i, A130, H⟩ := H
    have A13 := Aside0.mk A130
    clear A130
    by_cases c14 : (0 ≤ i ∧ i < (x136000_1.length : Int)) ∧ (0 ≤ x1_1 ∧ x1_1 ≤ 65535) ∧ ((rd_T153 x136000_1 i).f0 = x1_1 - ((x1_1.toNat % 256 : Nat) : Int)) ∧ ((rd_T153 x136000_1 i).f2).size = 256 ∧ x2_1.size ≤ 65536
    ·rw [if_pos c14] at H
     obtain ⟨⟨i0, i1⟩, ⟨x0, x1⟩, bz, dz, tz⟩ := c14
     obtain ⟨a, ha⟩ : ∃ a : Nat, x1_1.toNat % 256 = a := ⟨_, rfl⟩
     rw [ha] at bz
     obtain ⟨n, hn⟩ : ∃ n : Nat, min x2_1.size (256 - a) = n := ⟨_, rfl⟩
     rw [ha, hn] at H
     have H' := Aside0.mk H
     clear H
     obtain ⟨b, hb0⟩ : ∃ b : Int, b = (rd_T153 x136000_1 i).f0 := ⟨_, rfl⟩
     obtain ⟨d, hd⟩ : ∃ d : ByteArray, d = (rd_T153 x136000_1 i).f2 := ⟨_, rfl⟩
     rw [← hd] at dz
     rw [← hb0] at bz
     have HD := Aside0.mk hd
     have HE := Aside0.mk hb0
     clear hd hb0
     have f0 : IntKind.i64.wrap (x1_1 - b) = (a : Int) := by rw [IntKind.wrap_i64]; omega
     have f1 : IntKind.i64.wrap (256 - (a : Int)) = 256 - (a : Int) := by rw [IntKind.wrap_i64]; omega
     have f2 : (if 256 - (a : Int) < (x2_1.size : Int) then 256 - (a : Int) else (x2_1.size : Int)) = (n : Int) := by split <;> omega
     have p141 := eq_true i0
     have q141 := eq_true i1
     have p141b : decide (0 ≤ i) = true := decide_eq_true i0
     have q141b : decide (i < (x136000_1.length : Int)) = true := decide_eq_true i1
     have y0 : ((a : Int) ≤ 256) = True := eq_true (by omega)
     have y1 : ((n : Int) ≤ (x2_1.size : Int)) = True := eq_true (by omega)
     have y2 : IntKind.i64.wrap ((a : Int) + (n : Int)) = (a : Int) + (n : Int) := by rw [IntKind.wrap_i64]; omega
     have y3 : ((a : Int) + (n : Int) ≤ 256) = True := eq_true (by omega)
     have y4 : (0 ≤ (a : Int) + (n : Int)) = True := eq_true (by omega)
     have y7 : (9223372036854775807 < min a 256 + min n x2_1.size) = False := eq_false (by omega)
     have y9 : ((a : Int) + (n : Int)).toNat = a + n := by omega
     have y8 : (9223372036854775807 < min a 256 + min n x2_1.size + (256 - (a + n))) = False := eq_false (by omega)
     have y5 : (0 ≤ (a : Int)) = True := eq_true (by omega)
     have y6 : (0 ≤ (n : Int)) = True := eq_true (by omega)
     have y10 : IntKind.i64.wrap (x1_1 + (n : Int)) = x1_1 + (n : Int) := by rw [IntKind.wrap_i64]; omega
     have y11 : wrap64 (x1_1 + (n : Int)) = x1_1 + (n : Int) := (i64_w _).symm.trans y10
     clear c12 hn ha bz
     have hnb30 := NB135_136.out
     have hnc30 := NB136_135.out
     have hcz31_0 := cz BK135.out 0 (u136000)
     have hfz31_0 := blk_frozen BK135.out 0
     obtain ⟨Ao32, co32, eo32⟩ := Kd.R_slice HO_136000.out
     subst eo32
     go_wp2_with (first | ((with_reducible refine gate_callee (f := 228) rfl ?_); refine goesL_ (some 18) rfl rfl Try.func228 by2 rfl #[.agg #[.slice Ao32 x136000_1.length co32], .int .i64 x1_1] rfl by0 ?_; (with_reducible refine (spec_l02Find.calls k1 _ _ x136000_1 x1_1 i _ ?side1 ?side2 A13.out).mono ?_); (case side1 => repeat (first | exact (Kd.R_reads' HO_136000.out).2.2 | (with_reducible refine Kd.C_alloc ?_ _) | (with_reducible refine Kd.C_drewN ?_ _) | (with_reducible refine Kd.C_drew ?_))); (case side2 => exact (Kd.R_reads' HO_136000.out).2.1); rintro e w33 ⟨rfl, hb⟩; refine ⟨_, rfl, ?_⟩; have n0_ := Aside0.mk (Kd.R_below (by (with_reducible repeat (first | apply Kd.R_alloc | apply Kd.R_drewN | apply Kd.R_drew)); exact HO_136000.out) hb); have n1_ := Aside0.mk (blk_below (g := gb135) (o := .cells #[.slice Ao32 x136000_1.length co32] 45 (0, 0)) by18 hb); have n2_ := Aside0.mk (blk_below (g := gb136) (o := .cells #[.slice none 0 0] 45 (0, 0)) by32 hb); have n3_ := Aside0.mk (below_step by11 hb); clear HO_136000; clear BK135; clear BK136; clear HB; have HO_136000 := n0_; have BK135 := n1_; have BK136 := n2_; have HB := n3_; clear n0_ n1_ n2_ n3_; (try clear hb); have hcz34_0 := cz BK135.out 0 (.slice Ao32 x136000_1.length co32); have hfz34_0 := blk_frozen BK135.out 0; obtain ⟨ad141, e141, hx141_0, hx141_1, hx141_2⟩ := at_T153 (Kd.R_reads' HO_136000.out).2.2 i i0 i1; cases e141; rw [← HE.out] at hx141_0; rw [← HD.out] at hx141_2))
     refine wp_region_still_tail 18 by2 by2 ?_
     simp only [List.take_succ_cons, List.take_zero, List.drop_succ_cons, List.drop_zero]
     have n0_ := Aside0.mk (Kd.R_drew HO_136000.out)
     have n1_ := Aside0.mk (blk_drew BK135.out)
     have n2_ := Aside0.mk (blk_drew BK136.out)
     have n3_ := Aside0.mk (below_drew1 HB.out)
     clear HO_136000 BK135 BK136 HB hcz34_0 hfz34_0 hcz31_0 hfz31_0 hx141_0 hx141_1 hx141_2
     have HO_136000 := n0_
     have BK135 := n1_
     have BK136 := n2_
     have HB := n3_
     clear n0_ n1_ n2_ n3_
     change wpStill _ _ w33.drew (fun a' => wpList _ _ _ _ a' w33.drew) _ _
     generalize w33.drew = W2 at HO_136000 BK135 BK136 HB ⊢
     obtain ⟨go27, co27, eo27, gb27, gl27, cl27, HG27⟩ := Kd.R_form HO_136000.out (by omega)
     (first | cases eo27 | (injection eo27 with ea_ en_ ec_; (first | subst ea_ | (injection ea_ with ea_; subst ea_)); subst ec_; clear en_))
     have GB27 := Aside0.mk gb27
     clear gb27 gl27 HG27
     obtain ⟨ce27, hcl27, hM27, hcc27, hfr27⟩ := Kd.R_elem HO_136000.out z153 i i0 i1
     obtain rfl := k153_openM hM27
     have hx2 : World.cell? W2 ⟨go27, i.toNat * 3 + 2, none⟩ = some (.string ((rd_T153 x136000_1 i).f2)) := hcc27 2 _ rfl
     have hf2 : World.frozen? W2 ⟨go27, i.toNat * 3 + 2, none⟩ = false := hfr27 2
     rw [← HD.out] at hx2
     have hcz35 := cz BK135.out 0 (.slice (some ⟨go27, 0, none⟩) x136000_1.length co32)
     have HP := Aside0.mk (Kd.R_seg HO_136000.out i i0 i1 (seg := [.string (d.extract 0 a ++ x2_1.extract 0 n ++ d.extract (a + n) 256)]) (j := 2) hcl27 hcc27 (show 3 ≤ 3 from by decide) (x' := (⟨(rd_T153 x136000_1 i).f0, (rd_T153 x136000_1 i).f1, d.extract 0 a ++ x2_1.extract 0 n ++ d.extract (a + n) 256⟩ : S153)) (k153_mkM _ _ _ (⟨(rd_T153 x136000_1 i).f0, (rd_T153 x136000_1 i).f1, d.extract 0 a ++ x2_1.extract 0 n ++ d.extract (a + n) 256⟩ : S153)) (fun _ hk => hk)).1
     rw [← HD.out] at H'
     clear f0 f1 f2 hcl27 hcc27 hfr27 hM27
     repeat still_step
     try refine wpStill_nil ?_
     go_wp2
     go_roundg k1
     case measure => have := HK1.out; omega
     case rel => exact ⟨x1_1 + (n : Int), (x2_1.extract n x2_1.size), _, (.slice (some ⟨go27, 0, none⟩) x136000_1.length co32), by140, by7, H', ⟨by have := HK1.out; omega⟩, ⟨by (with_reducible repeat (first | apply Kd.R_alloc | apply Kd.R_drewN | apply Kd.R_drew)); exact HP.out⟩, ⟨by (with_reducible repeat (first | refine blk_drewN ?_ _ | refine blk_drew ?_ | refine blk_alloc ?_ _)); refine blk_far ?_ (by have h_ := Kd.R_ne HO_136000.out BK135.out (by decide); intro e_; exact h_ (by rw [e_]; rfl)) _; (with_reducible repeat (first | refine blk_drewN ?_ _ | refine blk_drew ?_ | refine blk_alloc ?_ _)); exact BK135.out⟩, ⟨by (with_reducible repeat (first | refine blk_drewN ?_ _ | refine blk_drew ?_ | refine blk_alloc ?_ _)); refine blk_far ?_ (by have h_ := Kd.R_ne HO_136000.out BK136.out (by decide); intro e_; exact h_ (by rw [e_]; rfl)) _; (with_reducible repeat (first | refine blk_drewN ?_ _ | refine blk_drew ?_ | refine blk_alloc ?_ _)); exact BK136.out⟩, ⟨by repeat (first | (with_reducible first | exact HB.out | apply below_alloc | apply pw_below_drewN | apply below_drew1 | refine below_set ?_ GB27.out) | exact HB.out)⟩⟩
    ·rw [if_neg c14] at H
     exact absurd H (by simp)
   ·rw [if_neg c12] at H
    have c12b0 : decide (0 < (x2_1.size : Int)) = false := decide_eq_false c12
    have c12b1 : decide (0 < x2_1.size) = false := decide_eq_false (by omega)
    clear c12
    obtain rfl := Option.some.inj H
    have hnb37 := NB135_136.out
    have hnc37 := NB136_135.out
    have hcz38_0 := cz BK135.out 0 (u136000)
    have hfz38_0 := blk_frozen BK135.out 0
    obtain ⟨Ao39, co39, eo39⟩ := Kd.R_slice HO_136000.out
    subst eo39
    have hcz40_0 := cz BK136.out 0 (.slice none 0 0)
    have hfz40_0 := blk_frozen BK136.out 0
    go_wp2
    refine bodyPost_ret (results_cell_row rfl _ _ gb136 45 #[.slice Ao39 x136000_1.length co39] (0, 0) _ rfl (by (with_reducible repeat (first | refine blk_drewN ?_ _ | refine blk_drew ?_ | refine blk_alloc ?_ _)); refine blk_put (cs := #[.slice none 0 0]) ?_ 0 _ rfl; (with_reducible repeat (first | refine blk_drewN ?_ _ | refine blk_drew ?_ | refine blk_alloc ?_ _)); exact BK136.out) Try.underlying45 rfl (by kernel_rfl)) rfl ?_
    exact ⟨_, by first | rfl | (simp [errW_none, errW_some] <;> rfl) | (simp [*, errW_none, errW_some] <;> rfl), by (with_reducible repeat (first | apply Kd.R_alloc | apply Kd.R_drewN | apply Kd.R_drew)); exact Kd.R_mono (Kd.R_far (p := ⟨gb136, 0, none⟩) (Kd.R_types HO_136000.out BK136.out (by decide)) (fun _ hk => hk.2) (.slice Ao39 x136000_1.length co39)) (fun _ hk => trivial), by repeat (first | (with_reducible first | exact HB.out | apply below_alloc | apply pw_below_drewN | apply below_drew1 | refine below_set ?_ GE135.out | refine below_set ?_ GE136.out) | exact HB.out)⟩


/-! ### spec_l02Store: function 93 -/
def spec_l02Store.f (k : Nat) (l0_0 : List (S153)) (a1 : Int) (a2 : Int) (a3 : Int) : Option ((List (S153)) × Int) := (spec_l02Fault.f k l0_0 a1 a2 2).bind fun t137 => (if t137 = 0 then ((spec_l01Little.f k a3 a2).bind fun t138 => ((spec_l02Put.f k l0_0 a1 t138).bind fun t139 => (some (t139, 0)))) else (some (l0_0, t137)))
theorem spec_l02Store.mono : ∀ a0 a1 a2 a3 k, LeO (spec_l02Store.f k a0 a1 a2 a3) (spec_l02Store.f (k + 1) a0 a1 a2 a3) := by
 intro a0 a1 a2 a3 k
 unfold spec_l02Store.f
 repeat' first
   | (with_reducible exact spec_l01Little.mono _ _ _)
   | (with_reducible exact spec_l02Fault.mono _ _ _ _ _)
   | (with_reducible exact spec_l02Put.mono _ _ _ _)
   | (with_reducible exact LeO.refl _)
   | (with_reducible exact LeO.none _)
   | (with_reducible refine LeO.ite ?_ ?_)
   | (with_reducible refine LeO.bind ?_ (fun _ => ?_))
   | refine LeO.ite ?_ ?_
   | refine LeO.bind ?_ (fun _ => ?_)
def spec_l02Store.T4 : Bool × List (List Nat × List Nat) := (true, [([], []), ([], []), ([], []), ([], []), ([2, 3], [2, 3]), ([0, 1, 4, 4], [0, 1, 4]), ([5, 5, 0, 1, 2, 3, 4, 5], [5]), ([6, 0, 1, 2, 3, 4, 5, 6], [])])
def spec_l02Store.B4 : List Nat := [0, 0, 0, 0, 12, 31, 63, 127]
theorem spec_l02Store.tab4 : rtab .any (opsOf Try.f93 4) = spec_l02Store.T4 := by kernel_rfl
theorem spec_l02Store.bits4 : waitsOk spec_l02Store.T4.2 spec_l02Store.B4 = true := by kernel_rfl
set_option maxHeartbeats 8000000 in
set_option maxRecDepth 100000 in
theorem spec_l02Store.calls (k : Nat) (P0_0_ : Nat → Prop) (u9000_ : Value) (l0_0 : List (S153)) (a1 : Int) (a2 : Int) (a3 : Int) (r1 : List (S153)) (r2 : Int) (w0 w : World) (hB : Below w0.heap.size w0 w) (ho0_0 : Kd.R k153 153 w w0.heap.size P0_0_ u9000_ l0_0) (h : spec_l02Store.f k l0_0 a1 a2 a3 = some (r1, r2)) :
  Calls Try.prog 93 #[.agg #[u9000_], .int .i64 a1, .int .i64 a2, .int .i64 a3] w fun e w' => ∃ v0_ : Value, e = .returned (.tuple #[.agg #[v0_], .int .i64 r2]) ∧ Kd.R k153 153 w' w0.heap.size (fun k_ => (P0_0_ k_ ∨ w.heap.size ≤ k_)) v0_ r1 ∧ Below w0.heap.size w0 w' ∧ Kept w w' (fun k_ => P0_0_ k_) := by
 have hu45 := Try.underlying45
 have HO0_0 := Aside0.mk (show Kd.R k153 153 w w0.heap.size (fun k_ => (P0_0_ k_ ∨ w.heap.size ≤ k_)) u9000_ l0_0 from Kd.R_mono ho0_0 (fun k_ hk => (.inl hk)))
 have HK := Aside0.mk (Kept.refl w (fun k_ => P0_0_ k_))
 have HW0 := Aside0.mk hB.size
 have HB := Aside0.mk hB
 clear hB
 have H : ((spec_l02Fault.f k l0_0 a1 a2 2).bind fun t137 => (if t137 = 0 then ((spec_l01Little.f k a3 a2).bind fun t138 => ((spec_l02Put.f k l0_0 a1 t138).bind fun t139 => (some (t139, 0)))) else (some (l0_0, t137)))) = some (r1, r2) := h
 clear h
 replace H := Option.bind_eq_some_iff.mp H
 obtain ⟨t137, A50, H⟩ := H
 replace H : (if t137 = 0 then ((spec_l01Little.f k a3 a2).bind fun t138 => ((spec_l02Put.f k l0_0 a1 t138).bind fun t139 => (some (t139, 0)))) else (some (l0_0, t137))) = some (r1, r2) := H
 have A5 := Aside0.mk A50
 clear A50
 by_cases c6 : t137 = 0
 ·rw [if_pos c6] at H
  have c6b0 : (t137 == 0) = true := beq_iff_eq.mpr c6
  have c6b1 : (t137 != 0) = false := bne_eq_false_iff_eq.mpr c6
  clear c6
  replace H := Option.bind_eq_some_iff.mp H
  obtain ⟨t138, A70, H⟩ := H
  replace H : ((spec_l02Put.f k l0_0 a1 t138).bind fun t139 => (some (t139, 0))) = some (r1, r2) := H
  have A7 := Aside0.mk A70
  clear A70
  replace H := Option.bind_eq_some_iff.mp H
  obtain ⟨t139, A80, H⟩ := H
  replace H : (some (t139, 0)) = some (r1, r2) := H
  have A8 := Aside0.mk A80
  clear A80
  simp only [Option.some.injEq, Prod.mk.injEq] at H
  obtain ⟨rfl, rfl⟩ := H
  obtain ⟨Ao9, co9, eo9⟩ := Kd.R_slice HO0_0.out
  subst eo9
  go_enter Try.func93, Try.ntmps93
  try go_wp2_with (first | ((with_reducible refine gate_dst (N := 4) rfl ?_); refine box_event ?hg (N := 4) ?hd (cs := #[.slice Ao9 l0_0.length co9]) (t := 45) ?hr ?_; (case hd => rfl); (case hg => rfl); (case hr => first | (go_simp; done) | (go_simp; rfl)); intro gb135 hg w10 hbox hb; have n0_ := Aside0.mk (Kd.R_below by10 hb); have n1_ := Aside0.mk (Kept.below (S := (fun k_ => P0_0_ k_)) by27 hb); have n2_ := Aside0.mk (below_step by3 hb); have n3_ := Aside0.mk (hbox); have n4_ := Aside0.mk ((by26 : w.heap.size ≤ gb135)); have n5_ := Aside0.mk ((by1 : w0.heap.size ≤ gb135)); clear HO0_0; clear HK; clear HB; have HO0_0 := n0_; have HK := n1_; have HB := n2_; have BK135 := n3_; have GW135 := n4_; have GE135 := n5_; clear n0_ n1_ n2_ n3_ n4_ n5_; clear hb hbox hg) | ((with_reducible refine gate_dst (N := 8) rfl ?_); refine box_event ?hg (N := 8) ?hd (cs := #[.slice none 0 0]) (t := 45) ?hr ?_; (case hd => rfl); (case hg => rfl); (case hr => first | (go_simp; done) | (go_simp; rfl)); intro gb136 hg w11 hbox hb; have n0_ := Aside0.mk (Kd.R_below by10 hb); have n1_ := Aside0.mk (blk_below (g := gb135) (o := .cells #[.slice Ao9 l0_0.length co9] 45 (0, 0)) by18 hb); have n2_ := Aside0.mk (Kept.below (S := (fun k_ => P0_0_ k_)) by126 hb); have n3_ := Aside0.mk (below_step by67 hb); have n4_ := Aside0.mk (hbox); have n5_ := Aside0.mk ((by75 : w.heap.size ≤ gb136)); have n6_ := Aside0.mk ((by41 : w0.heap.size ≤ gb136)); have n7_ := Aside0.mk ((by rw [hg]; exact Nat.ne_of_lt (blk_lt (g := gb135) (o := .cells #[.slice Ao9 l0_0.length co9] 45 (0, 0)) by18) : gb135 ≠ gb136)); have n8_ := Aside0.mk ((by rw [hg]; exact Nat.ne_of_gt (blk_lt (g := gb135) (o := .cells #[.slice Ao9 l0_0.length co9] 45 (0, 0)) by18) : gb136 ≠ gb135)); clear HO0_0; clear BK135; clear HK; clear HB; have HO0_0 := n0_; have BK135 := n1_; have HK := n2_; have HB := n3_; have BK136 := n4_; have GW136 := n5_; have GE136 := n6_; have NB135_136 := n7_; have NB136_135 := n8_; clear n0_ n1_ n2_ n3_ n4_ n5_ n6_ n7_ n8_; clear hb hbox hg; have hnb12 := NB135_136.out; have hnc12 := NB136_135.out; have hcz13_0 := cz BK135.out 0 (.slice Ao9 l0_0.length co9); have hfz13_0 := blk_frozen BK135.out 0) | ((with_reducible refine gate_callee (f := 164) rfl ?_); refine goesL_ (some 14) rfl rfl Try.func164 by2 rfl #[.agg #[.slice Ao9 l0_0.length co9], .int .i64 a1, .int .i64 a2, .int .i64 2] rfl by0 ?_; (with_reducible refine (spec_l02Fault.calls k _ _ l0_0 a1 a2 2 t137 _ ?side1 ?side2 A5.out).mono ?_); (case side1 => repeat (first | exact (Kd.R_reads' HO0_0.out).2.2 | (with_reducible refine Kd.C_alloc ?_ _) | (with_reducible refine Kd.C_drewN ?_ _) | (with_reducible refine Kd.C_drew ?_))); (case side2 => exact (Kd.R_reads' HO0_0.out).2.1); rintro e w14 ⟨rfl, hb⟩; refine ⟨_, rfl, ?_⟩; have n0_ := Aside0.mk (Kd.R_below by10 hb); have n1_ := Aside0.mk (blk_below (g := gb135) (o := .cells #[.slice Ao9 l0_0.length co9] 45 (0, 0)) by18 hb); have n2_ := Aside0.mk (blk_below (g := gb136) (o := .cells #[.slice none 0 0] 45 (0, 0)) by32 hb); have n3_ := Aside0.mk (Kept.below (S := (fun k_ => P0_0_ k_)) by45 hb); have n4_ := Aside0.mk (below_step by11 hb); clear HO0_0; clear BK135; clear BK136; clear HK; clear HB; have HO0_0 := n0_; have BK135 := n1_; have BK136 := n2_; have HK := n3_; have HB := n4_; clear n0_ n1_ n2_ n3_ n4_; (try clear hb); (try clear hb2); (try clear hk); (try clear hi)))
  have n0_ := Aside0.mk (Kd.R_drew HO0_0.out)
  have n1_ := Aside0.mk (blk_drew BK135.out)
  have n2_ := Aside0.mk (blk_drew BK136.out)
  have n3_ := Aside0.mk (Kept.drew HK.out)
  have n4_ := Aside0.mk (below_drew1 HB.out)
  clear HO0_0
  clear BK135
  clear BK136
  clear HK
  clear HB
  have HO0_0 := n0_
  have BK135 := n1_
  have BK136 := n2_
  have HK := n3_
  have HB := n4_
  clear n0_ n1_ n2_ n3_ n4_
  refine start_ (n := 8) (S := fun w' => w'.cell? ⟨gb135, 0, none⟩ = some (.slice Ao9 l0_0.length co9)) (ds := []) #[false, false, false, false, false, false, false, false] by2 rfl rfl ((blk_cell BK135.out 0).trans rfl) (fun hHeld => ?_); refine with_tabW spec_l02Store.tab4 spec_l02Store.bits4 (fun HT_ HW_ => ?_)
  generalize w14.drew = w15 at HO0_0 BK135 BK136 HK HB hHeld ⊢
  refine pure_ (i := 1) (N := some 20) (v := ?_) (a' := ?_) #[false, true, false, false, false, false, false, false] rfl rfl (any_of HT_.out by2) (fun _ _ _ h => h) (Or.inl ⟨by rfl, ?_⟩) ?_ ?_
  rotate_left
  ·intro w'
   go_simp
   with_reducible rfl
  rotate_left
  ·simp only [Act.put, List.setIfInBounds_toArray, List.set_cons_zero, List.set_cons_succ, i64_w, i32_w]
   rfl
  refine pure_ (i := 2) (N := some 21) (v := ?_) (a' := ?_) #[false, true, true, false, false, false, false, false] rfl rfl (any_of HT_.out by2) (fun _ _ _ h => h) (Or.inl ⟨by rfl, ?_⟩) ?_ ?_
  rotate_left
  ·intro w'
   go_simp
   with_reducible rfl
  rotate_left
  ·simp only [Act.put, List.setIfInBounds_toArray, List.set_cons_zero, List.set_cons_succ, i64_w, i32_w]
   rfl
  refine pure_ (i := 3) (N := some 22) (v := ?_) (a' := ?_) #[false, true, true, true, false, false, false, false] rfl rfl (any_of HT_.out by2) (fun _ _ _ h => h) (Or.inl ⟨by rfl, ?_⟩) ?_ ?_
  rotate_left
  ·intro w'
   go_simp
   with_reducible rfl
  rotate_left
  ·simp only [Act.put, List.setIfInBounds_toArray, List.set_cons_zero, List.set_cons_succ, i64_w, i32_w]
   rfl
  refine take_ (i := 0) (N := some 19) (v := ?_) (a' := ?_) #[true, true, true, true, false, false, false, false] rfl rfl (take_ofW HT_.out HW_.out by2) (fun _ _ _ h => h) (Or.inl ⟨by rfl, ?_⟩) hHeld ?_ ?_
  rotate_left
  ·intro w' s0
   go_simp
   with_reducible rfl
  rotate_left
  ·simp only [Act.put, List.setIfInBounds_toArray, List.set_cons_zero, List.set_cons_succ, i64_w, i32_w]
   rfl
  refine one_ (i := 4) (N := some 23) #[true, true, true, true, true, false, false, false] rfl rfl (one_of HT_.out by2) (by decide) (fun K hK => ?_)
  refine goes_ Try.func152 by2 rfl #[.int .i64 a3, .int .i64 a2] (by rfl) rfl rfl by0 ?_
  with_reducible refine (spec_l01Little.calls k a3 a2 t138 _ A7.out).mono ?_
  rintro e w16 ⟨rfl, hb⟩
  refine ⟨_, rfl, ?_⟩
  have n0_ := Aside0.mk (Kd.R_below by10 hb)
  have n1_ := Aside0.mk (blk_below (g := gb135) (o := .cells #[.slice Ao9 l0_0.length co9] 45 (0, 0)) by18 hb)
  have n2_ := Aside0.mk (blk_below (g := gb136) (o := .cells #[.slice none 0 0] 45 (0, 0)) by32 hb)
  have n3_ := Aside0.mk (Kept.below (S := (fun k_ => P0_0_ k_)) by45 hb)
  have n4_ := Aside0.mk (below_step by11 hb)
  clear HO0_0
  clear BK135
  clear BK136
  clear HK
  clear HB
  have HO0_0 := n0_
  have BK135 := n1_
  have BK136 := n2_
  have HK := n3_
  have HB := n4_
  clear n0_ n1_ n2_ n3_ n4_
  (try clear hb)
  (try clear hb2)
  (try clear hk)
  (try clear hi)
  refine hK.out _ _ ((blk_cell BK135.out 0).trans rfl) (fun hHeld => ?_)
  clear hK K
  refine norm_ (a' := ?_) ?_ ?_
  rotate_left
  ·show Act.put _ (some 23) _ = _
   simp only [Act.put, List.setIfInBounds_toArray, List.set_cons_zero, List.set_cons_succ, i64_w, i32_w]
   rfl
  refine one_ (i := 5) (N := some 24) #[true, true, true, true, true, true, false, false] rfl rfl (one_of HT_.out by2) (by decide) (fun K hK => ?_)
  refine goes_ Try.func165 by2 rfl #[.agg #[.slice Ao9 l0_0.length co9], .int .i64 a1, .string t138] (by rfl) rfl rfl by0 ?_
  with_reducible refine (spec_l02Put.calls k _ _ l0_0 a1 t138 t139 _ ?side1 ?side2 A8.out).mono ?_
  (case side1 => repeat (first | exact (Kd.R_reads' HO0_0.out).2.2 | (with_reducible refine Kd.C_alloc ?_ _) | (with_reducible refine Kd.C_drewN ?_ _) | (with_reducible refine Kd.C_drew ?_)))
  (case side2 => exact (Kd.R_reads' HO0_0.out).2.1)
  rintro e w17 ⟨v140, rfl, ho0, hb⟩
  refine ⟨_, rfl, ?_⟩
  have n0_ := Aside0.mk (Kd.R_elder' by10 (Kd.R_base ho0) hb)
  have n1_ := Aside0.mk (Kd.R_lower (Kd.R_new' (Kd.R_newM (M := fun k_ => (P0_0_ k_ ∨ w.heap.size ≤ k_)) ho0 (by first | exact HK.out.1 | exact (show Kept w _ (fun k_ => P0_0_ k_) from by repeat (first | (with_reducible first | exact HK.out | apply Kept.alloc | apply Kept.drewN | apply Kept.drew | refine Kept.setCell ?_ (.inr GW135.out) _ | refine Kept.setCell ?_ (.inr GW136.out) _) | exact HK.out)).1) (fun k_ h_ => .inr h_)) (Kd.R_lt by10)) (below_size by11))
  have n2_ := Aside0.mk (blk_below (g := gb135) (o := .cells #[.slice Ao9 l0_0.length co9] 45 (0, 0)) by18 hb)
  have n3_ := Aside0.mk (blk_below (g := gb136) (o := .cells #[.slice none 0 0] 45 (0, 0)) by32 hb)
  have n4_ := Aside0.mk (Kept.below (S := (fun k_ => P0_0_ k_)) by45 hb)
  have n5_ := Aside0.mk (below_step by11 hb)
  clear HO0_0
  clear BK135
  clear BK136
  clear HK
  clear HB
  have HO0_0 := n0_
  have HO141 := n1_
  have BK135 := n2_
  have BK136 := n3_
  have HK := n4_
  have HB := n5_
  clear n0_ n1_ n2_ n3_ n4_ n5_
  (try clear hb)
  (try clear hb2)
  (try clear hk)
  (try clear hi)
  (try clear ho0)
  obtain ⟨Ao18, co18, eo18⟩ := Kd.R_slice HO141.out
  (first | subst eo18 | (injection eo18 with f1_ f2_ f3_; have f4_ := f1_.symm; have f5_ := f3_.symm; clear f1_ f2_ f3_; subst f4_; subst f5_))
  refine hK.out _ _ ((blk_cell BK135.out 0).trans rfl) (fun hHeld => ?_)
  clear hK K
  refine norm_ (a' := ?_) ?_ ?_
  rotate_left
  ·show Act.put _ (some 24) _ = _
   simp only [Act.put, List.setIfInBounds_toArray, List.set_cons_zero, List.set_cons_succ, i64_w, i32_w]
   rfl
  refine one_ (i := 6) (N := none) #[true, true, true, true, true, true, true, false] rfl rfl (one_of HT_.out by2) (by decide) (fun K hK => ?_)
  have hs19 := cz BK136.out 0 (.slice none 0 0)
  have hfs19 := blk_frozen BK136.out 0
  have hns19_0 := NB135_136.out
  have hms19_0 := NB136_135.out
  refine skip_ (w1 := ?_) (by rfl) rfl ?_ ?_
  rotate_left
  ·go_simp
   rfl
  refine hK.out _ _ (((cell_far (p := ⟨gb136, _, none⟩) NB135_136.out _).trans (hHeld))) (fun hHeld => ?_)
  clear hK K
  refine pure_ (i := 7) (N := some 9) (v := ?_) (a' := ?_) #[true, true, true, true, true, true, true, true] rfl rfl (any_of HT_.out by2) (fun _ _ _ h => h) (Or.inl ⟨by rfl, ?_⟩) ?_ ?_
  rotate_left
  ·intro w'
   go_simp
   with_reducible rfl
  rotate_left
  ·simp only [Act.put, List.setIfInBounds_toArray, List.set_cons_zero, List.set_cons_succ, i64_w, i32_w]
   rfl
  refine done_ (done_of HT_.out by2) ?_
  try go_wp2
  refine bodyPost_ret (results_ct rfl _ _ gb136 45 #[.slice Ao18 t139.length co18] (0, 0) _ rfl (by (with_reducible repeat (first | refine blk_drewN ?_ _ | refine blk_drew ?_ | refine blk_alloc ?_ _)); refine blk_put (cs := #[.slice none 0 0]) ?_ 0 _ rfl; (with_reducible repeat (first | refine blk_drewN ?_ _ | refine blk_drew ?_ | refine blk_alloc ?_ _)); exact BK136.out) Try.underlying45 rfl (by kernel_rfl)) rfl ?_
  exact ⟨_, by first | rfl | (simp [errW_none, errW_some] <;> rfl) | (simp [*, errW_none, errW_some] <;> rfl), by (with_reducible repeat (first | apply Kd.R_alloc | apply Kd.R_drewN | apply Kd.R_drew)); exact Kd.R_mono (Kd.R_far (p := ⟨gb136, 0, none⟩) (Kd.R_types HO141.out BK136.out (by decide)) (fun _ hk => hk.2) (.slice Ao18 t139.length co18)) (fun _ hk => hk.1.1.1), by repeat (first | (with_reducible first | exact HB.out | apply below_alloc | apply pw_below_drewN | apply below_drew1 | refine below_set ?_ GE135.out | refine below_set ?_ GE136.out) | exact HB.out), by repeat (first | (with_reducible first | exact HK.out | apply Kept.alloc | apply Kept.drewN | apply Kept.drew | refine Kept.setCell ?_ (.inr GW135.out) _ | refine Kept.setCell ?_ (.inr GW136.out) _) | exact HK.out)⟩
 ·rw [if_neg c6] at H
  have c6b0 : (t137 == 0) = false := beq_eq_false_iff_ne.mpr c6
  have c6b1 : (t137 != 0) = true := bne_iff_ne.mpr c6
  simp only [Option.some.injEq, Prod.mk.injEq] at H
  obtain ⟨rfl, rfl⟩ := H
  obtain ⟨Ao20, co20, eo20⟩ := Kd.R_slice HO0_0.out
  subst eo20
  go_enter Try.func93, Try.ntmps93
  go_wp2_with (first | ((with_reducible refine gate_dst (N := 4) rfl ?_); refine box_event ?hg (N := 4) ?hd (cs := #[.slice Ao20 l0_0.length co20]) (t := 45) ?hr ?_; (case hd => rfl); (case hg => rfl); (case hr => first | (go_simp; done) | (go_simp; rfl)); intro gb135 hg w21 hbox hb; have n0_ := Aside0.mk (Kd.R_below by10 hb); have n1_ := Aside0.mk (Kept.below (S := (fun k_ => P0_0_ k_)) by27 hb); have n2_ := Aside0.mk (below_step by3 hb); have n3_ := Aside0.mk (hbox); have n4_ := Aside0.mk ((by26 : w.heap.size ≤ gb135)); have n5_ := Aside0.mk ((by1 : w0.heap.size ≤ gb135)); clear HO0_0; clear HK; clear HB; have HO0_0 := n0_; have HK := n1_; have HB := n2_; have BK135 := n3_; have GW135 := n4_; have GE135 := n5_; clear n0_ n1_ n2_ n3_ n4_ n5_; clear hb hbox hg) | ((with_reducible refine gate_dst (N := 8) rfl ?_); refine box_event ?hg (N := 8) ?hd (cs := #[.slice none 0 0]) (t := 45) ?hr ?_; (case hd => rfl); (case hg => rfl); (case hr => first | (go_simp; done) | (go_simp; rfl)); intro gb136 hg w22 hbox hb; have n0_ := Aside0.mk (Kd.R_below by10 hb); have n1_ := Aside0.mk (blk_below (g := gb135) (o := .cells #[.slice Ao20 l0_0.length co20] 45 (0, 0)) by18 hb); have n2_ := Aside0.mk (Kept.below (S := (fun k_ => P0_0_ k_)) by126 hb); have n3_ := Aside0.mk (below_step by67 hb); have n4_ := Aside0.mk (hbox); have n5_ := Aside0.mk ((by75 : w.heap.size ≤ gb136)); have n6_ := Aside0.mk ((by41 : w0.heap.size ≤ gb136)); have n7_ := Aside0.mk ((by rw [hg]; exact Nat.ne_of_lt (blk_lt (g := gb135) (o := .cells #[.slice Ao20 l0_0.length co20] 45 (0, 0)) by18) : gb135 ≠ gb136)); have n8_ := Aside0.mk ((by rw [hg]; exact Nat.ne_of_gt (blk_lt (g := gb135) (o := .cells #[.slice Ao20 l0_0.length co20] 45 (0, 0)) by18) : gb136 ≠ gb135)); clear HO0_0; clear BK135; clear HK; clear HB; have HO0_0 := n0_; have BK135 := n1_; have HK := n2_; have HB := n3_; have BK136 := n4_; have GW136 := n5_; have GE136 := n6_; have NB135_136 := n7_; have NB136_135 := n8_; clear n0_ n1_ n2_ n3_ n4_ n5_ n6_ n7_ n8_; clear hb hbox hg; have hnb23 := NB135_136.out; have hnc23 := NB136_135.out; have hcz24_0 := cz BK135.out 0 (.slice Ao20 l0_0.length co20); have hfz24_0 := blk_frozen BK135.out 0) | ((with_reducible refine gate_callee (f := 164) rfl ?_); refine goesL_ (some 14) rfl rfl Try.func164 by2 rfl #[.agg #[.slice Ao20 l0_0.length co20], .int .i64 a1, .int .i64 a2, .int .i64 2] rfl by0 ?_; (with_reducible refine (spec_l02Fault.calls k _ _ l0_0 a1 a2 2 t137 _ ?side1 ?side2 A5.out).mono ?_); (case side1 => repeat (first | exact (Kd.R_reads' HO0_0.out).2.2 | (with_reducible refine Kd.C_alloc ?_ _) | (with_reducible refine Kd.C_drewN ?_ _) | (with_reducible refine Kd.C_drew ?_))); (case side2 => exact (Kd.R_reads' HO0_0.out).2.1); rintro e w25 ⟨rfl, hb⟩; refine ⟨_, rfl, ?_⟩; have n0_ := Aside0.mk (Kd.R_below by10 hb); have n1_ := Aside0.mk (blk_below (g := gb135) (o := .cells #[.slice Ao20 l0_0.length co20] 45 (0, 0)) by18 hb); have n2_ := Aside0.mk (blk_below (g := gb136) (o := .cells #[.slice none 0 0] 45 (0, 0)) by32 hb); have n3_ := Aside0.mk (Kept.below (S := (fun k_ => P0_0_ k_)) by45 hb); have n4_ := Aside0.mk (below_step by11 hb); clear HO0_0; clear BK135; clear BK136; clear HK; clear HB; have HO0_0 := n0_; have BK135 := n1_; have BK136 := n2_; have HK := n3_; have HB := n4_; clear n0_ n1_ n2_ n3_ n4_; (try clear hb); (try clear hb2); (try clear hk); (try clear hi); have hcz26_0 := cz BK135.out 0 (.slice Ao20 l0_0.length co20); have hfz26_0 := blk_frozen BK135.out 0; have hcz27_0 := cz BK136.out 0 (.slice none 0 0); have hfz27_0 := blk_frozen BK136.out 0))
  refine bodyPost_ret (results_ct rfl _ _ gb136 45 #[.slice Ao20 l0_0.length co20] (0, 0) _ rfl (by (with_reducible repeat (first | refine blk_drewN ?_ _ | refine blk_drew ?_ | refine blk_alloc ?_ _)); refine blk_put (cs := #[.slice none 0 0]) ?_ 0 _ rfl; (with_reducible repeat (first | refine blk_drewN ?_ _ | refine blk_drew ?_ | refine blk_alloc ?_ _)); exact BK136.out) Try.underlying45 rfl (by kernel_rfl)) rfl ?_
  exact ⟨_, by first | rfl | (simp [errW_none, errW_some] <;> rfl) | (simp [*, errW_none, errW_some] <;> rfl), by (with_reducible repeat (first | apply Kd.R_alloc | apply Kd.R_drewN | apply Kd.R_drew)); exact Kd.R_mono (Kd.R_far (p := ⟨gb136, 0, none⟩) (Kd.R_types HO0_0.out BK136.out (by decide)) (fun _ hk => hk.2) (.slice Ao20 l0_0.length co20)) (fun _ hk => hk.1), by repeat (first | (with_reducible first | exact HB.out | apply below_alloc | apply pw_below_drewN | apply below_drew1 | refine below_set ?_ GE135.out | refine below_set ?_ GE136.out) | exact HB.out), by repeat (first | (with_reducible first | exact HK.out | apply Kept.alloc | apply Kept.drewN | apply Kept.drew | refine Kept.setCell ?_ (.inr GW135.out) _ | refine Kept.setCell ?_ (.inr GW136.out) _) | exact HK.out)⟩

end Go.Proofs.Ytigoabhkdipdeaa.PFnExactStoreAt
